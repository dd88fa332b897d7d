/-
  Texts joined: Int, Mark, Same, Braid, BraidV, Stitches, Append, Own, BraidE, Open, Nest, OpenBr, Nst, Blk, BlkI, OpenEv, BlkS, BlkM, Spot, Gar, Gar2.
-/
import Derived.Test.YtfeonaocmnpkcaaRows
import Derived.Test.YtfeonaocmnpkcaaMem
import Derived.Deep.OwnRows
import Derived.Test.YtfeonaocmnpkcaaEv
import Derived.Test.YtfeonaocmnpkcaaWords
import Derived.Test.YtfeonaocmnpkcaaStitch
import Derived.Maps.AppendAt
import Derived.Deep.AppendLies
import Derived.RegionTactic
import Derived.OwnWalk
import Derived.ProofKit
import Derived.OpenShut
import Derived.ShutString
import Derived.ChangeOld
import Derived.Deep.Slices
import Derived.Deep.Fields
import Derived.ChangeSame
import Derived.Lib.Hide
/-
  What the laws' helpers for lists of int64 do: toInt64S, eqInt64S.
-/
namespace Go.Proofs.Ytfeonaocmnpkcaa
set_option linter.unusedVariables false
set_option linter.unusedSimpArgs false
open Go.RowKit

theorem info_int : (Try.prog.info? 2).map (fun i => (i.zero, i.size, i.bytes)) = some (some (.int .i64 0), 1, 8) := by kernel_rfl

set_option maxHeartbeats 1000000 in
theorem toInt64S_any (v : Value) (l : List Int) (w : World) (hl : RdI w w.heap.size v l) (hlen : l.length ≤ 1048576) :
    Calls Try.prog 55 #[v] w (GivesOw w 2 1 l.length (vI l)) := by
  obtain ⟨A, n, c, rfl, hln, hl, gl⟩ := hl
  have hn : n ≤ 1048576 := by have := hl.out; omega
  clear hlen
  have hmk := fun W => run_make_row' (P := Try.prog) 22 2 (.int .i64 0) 8 Try.underlying22 info_int rfl .i64 .i64 n (by omega) (by omega) W
  go_enter Try.func55, Try.ntmps55
  go_wp2
  clear hmk
  go_loopw [4] (fun i wr => ∃ (k : Nat) (f : Nat → Value), k ≤ n ∧ i = .int .i64 k ∧ wr.rowIs w.heap.size 2 n f ∧ Hid (∀ j x, j < k → l[j]? = some x → f j = .int .i64 x) ∧ Below w.heap.size w wr) (fun i _ => n - (intOf i).toNat)
  case atStart => exact ⟨0, _, Nat.zero_le _, rfl, World.rowIs_made _ _ _ _, fun j x hj => absurd hj (by omega), (Below.refl _ _).alloc (Nat.le_refl _) _⟩
  case round =>
    rename_i wr
    obtain ⟨k, f, hk, rfl, hrow, hf, hb⟩ := hrel
    by_cases hlt : k < n
    · obtain ⟨b, off, x, rfl, hbb, hlk, hc⟩ := gl k hlt
      have hc1 : wr.cell? ⟨b, off + k, none⟩ = some (.int .i64 x) := (hb.cell (p := ⟨b, off + k, none⟩) hbb).trans hc
      have hc2 := hrow.cell hlt
      have hc3 := hrow.frozen k
      have HB := Lib.hid hb
      have HR := Lib.hid hrow
      have Hl := Lib.hid hlk
      clear hc hb hrow hlk gl
      go_wp2
      refine ⟨⟨k + 1, _, by omega, by go_num, HR.out.set _ _, fun j y hj hy => ?_, HB.out.setCell (Nat.le_refl _) _⟩, by simp [intOf]; omega⟩
      by_cases hjk : j = k
      · subst hjk
        have : x = y := by have := Hl.out; rw [this] at hy; injection hy
        simp [this]
      · simp only [hjk, if_false]
        exact hf.out j y (by omega) hy
    · have HB := Lib.hid hb
      have HR := Lib.hid hrow
      clear hb hrow
      go_wp2
      go_ret
      have hll := hl.out
      refine ⟨.slice (some ⟨w.heap.size, 0, none⟩) n n, rfl, ⟨by simp [vI], .inr ?_⟩, HB.out⟩
      obtain ⟨cur, h1, h2, h3⟩ := HR.out
      refine ⟨w.heap.size, n, cur, by rw [hll], Nat.le_refl _, (Array.getElem?_eq_some_iff.1 h1).1, h1, by omega, by unfold maxLen; omega, by omega, ?_⟩
      rw [List.take_of_length_le (by simp; omega)]
      apply List.ext_getElem? ; intro j
      by_cases hj : j < n
      · obtain ⟨x, hx⟩ : ∃ x, l[j]? = some x := ⟨_, List.getElem?_eq_getElem (by omega)⟩
        rw [Array.getElem?_toList, h3 j hj, hf.out j x (by omega) hx]
        simp [vI, hx]
      · rw [List.getElem?_eq_none (by simp; omega), List.getElem?_eq_none (by simp [vI]; omega)]

set_option maxHeartbeats 1000000 in
theorem eqInt64S_any (v u : Value) (l m : List Int) (w : World) (B : Nat) (hl : RdI w B v l) (hm : RdI w B u m) (hB : B ≤ w.heap.size) :
    Calls Try.prog 58 #[v, u] w fun x w' => x = .returned (.bool (decide (l = m))) ∧ Below w.heap.size w w' := by
  obtain ⟨A, n, c, rfl, hln, hl, gl⟩ := hl
  obtain ⟨A', n', c', rfl, hmn, hm, gm⟩ := hm
  by_cases hlen : n = n'
  · subst hlen
    go_enter Try.func58, Try.ntmps58
    go_wp2
    go_loopw [5] (fun i wr => ∃ k : Nat, k ≤ n ∧ i = .int .i64 k ∧ Hid (decide (l = m) = decide (l.drop k = m.drop k)) ∧ Below w.heap.size w wr) (fun i _ => n - (intOf i).toNat)
    case atStart => exact ⟨0, Nat.zero_le _, rfl, rfl, Below.refl _ _⟩
    case round =>
      rename_i wr
      obtain ⟨k, hk, rfl, hd, hb⟩ := hrel
      by_cases hlt : k < n
      · obtain ⟨b, off, x, rfl, hbb, hlk, hc⟩ := gl k hlt
        obtain ⟨b', off', y, rfl, hbb', hmk, hc'⟩ := gm k hlt
        have e0 := fun X => wgrow_cell (x := X) ((hb.cell (p := ⟨b, off + k, none⟩) (Nat.lt_of_lt_of_le hbb hB)).trans hc)
        have e1 := fun X => wgrow_cell (x := X) ((hb.cell (p := ⟨b', off' + k, none⟩) (Nat.lt_of_lt_of_le hbb' hB)).trans hc')
        have HB := Lib.hid hb
        have Hl := Lib.hid hlk
        have Hm := Lib.hid hmk
        clear hc hc' hlk hmk hb gl gm
        go_wp2
        refine wp_region_grow (by kernel_rfl) (by kernel_rfl) ?_
        repeat (go_big_quiet_step (fail))
        refine wpQuiet_nil ?_
        intro w1 hb1
        have HB1 := HB.out.trans (hb1.mono HB.out.size)
        go_wp2
        · go_ret
          exact ⟨ret_bool (by rw [hd.out, drop_of_get Hl.out, drop_of_get Hm.out]; simp_all), HB1⟩
        · exact ⟨⟨k + 1, by omega, by go_num, by unfold Hid; rw [hd.out, drop_of_get Hl.out, drop_of_get Hm.out]; simp_all, HB1⟩, by simp [intOf]; omega⟩
      · go_wp2
        go_ret
        exact ⟨ret_bool (by rw [hd.out, List.drop_of_length_le (by have := hl.out; omega), List.drop_of_length_le (by have := hm.out; omega)]; simp), hb⟩
  · have hd1 : ((n : Int) != (n' : Int)) = true := by simp; omega
    go_enter Try.func58, Try.ntmps58
    go_wp2
    go_ret
    exact ⟨ret_bool (by symm; simp; rintro rfl; exact hlen (hl.out.symm.trans hm.out)), Below.refl _ _⟩

end Go.Proofs.Ytfeonaocmnpkcaa

/-
  What the laws' marks do: markX writes numbers one after the other into a slice of the caller's own, heldX reads them again.
-/
namespace Go.Proofs.Ytfeonaocmnpkcaa
set_option linter.unusedVariables false
set_option linter.unusedSimpArgs false
open Go.RowKit

/-- From 'w' to 'w'' only the blocks from lo on and below hi have turned, and new ones have come. -/
structure Only (lo hi : Nat) (w w' : World) : Prop where
  os : w'.os = w.os
  tape : w'.tape = w.tape
  output : w'.output = w.output
  size : w.heap.size ≤ w'.heap.size
  block : ∀ k, k < w.heap.size → (k < lo ∨ hi ≤ k) → w'.heap[k]? = w.heap[k]?

theorem Only.refl (lo hi : Nat) (w : World) : Only lo hi w w := ⟨rfl, rfl, rfl, Nat.le_refl _, fun _ _ _ => rfl⟩
theorem Only.trans {lo hi : Nat} {a b c : World} (h : Only lo hi a b) (k : Only lo hi b c) : Only lo hi a c :=
  ⟨k.os.trans h.os, k.tape.trans h.tape, k.output.trans h.output, Nat.le_trans h.size k.size, fun i h1 h2 => (k.block i (Nat.lt_of_lt_of_le h1 h.size) h2).trans (h.block i h1 h2)⟩
theorem Only.wide {lo hi lo' hi' : Nat} {a b : World} (h : Only lo hi a b) (h1 : lo' ≤ lo) (h2 : hi ≤ hi') : Only lo' hi' a b :=
  ⟨h.os, h.tape, h.output, h.size, fun i h3 h4 => h.block i h3 (by omega)⟩
theorem Only.setCell {lo hi : Nat} {a w : World} (h : Only lo hi a w) {p : Addr} (h1 : lo ≤ p.block) (h2 : p.block < hi) (u : Value) : Only lo hi a (w.setCell p u) :=
  h.trans ⟨rfl, rfl, rfl, by simp [World.setCell], fun k _ hk => Below.heap_setCell _ _ _ _ (by omega)⟩
theorem Only.of_below {lo hi : Nat} {a w : World} (h : Below a.heap.size a w) : Only lo hi a w := ⟨h.os, h.tape, h.output, h.size, fun k hk _ => h.block k hk⟩
theorem Only.alloc {lo hi : Nat} {a w : World} (h : Only lo hi a w) (o : Obj) : Only lo hi a (w.alloc o) :=
  h.trans (Only.of_below ((Below.refl _ _).alloc (Nat.le_refl _) o))
theorem Only.below {lo hi B : Nat} {a b : World} (h : Only lo hi a b) (hB : B ≤ lo) (hs : B ≤ a.heap.size) : Below B a b :=
  ⟨h.os, h.tape, h.output, h.size, fun k hk => h.block k (by omega) (.inl (by omega))⟩
theorem OwC.only {w w' : World} {lo hi l h E sz n : Nat} {v : Value} {xs : List Value} (ho : OwC w lo hi E sz v n xs) (hw : Only l h w w') (hd : hi ≤ l ∨ h ≤ lo) (hs : hi ≤ w.heap.size) : OwC w' lo hi E sz v n xs :=
  ho.keep fun g h1 h2 => hw.block g (by omega) (by omega)

theorem row_getD {cur : Array Value} {i : Nat} (h : i < cur.size) : cur[i]? = some (cur.getD i undef) := by simp [h]
/-- The marks from K on. -/
def vM (K : Int) (c : Nat) : List Value := (List.range c).map fun j : Nat => Value.int .i64 (K + (j : Int))
theorem vM_get {K : Int} {c j : Nat} {x : Int} (h : j < c) (hx : x = K + (j : Int)) : (vM K c)[j]? = some (.int .i64 x) := by simp [vM, h, hx]
theorem take_vM {K : Int} {c N : Nat} {cur : Array Value} {f : Nat → Value} (hc : c ≤ N) (h2 : cur.size = N) (h3 : ∀ i, i < N → cur[i]? = some (f i)) (hf : ∀ j, j < c → f j = .int .i64 (K + (j : Int))) : cur.toList.take c = vM K c := by
  apply List.ext_getElem?
  intro j
  rw [List.getElem?_take]
  by_cases hj : j < c
  · rw [if_pos hj, Array.getElem?_toList, h3 j (by omega), hf j hj, vM_get hj rfl]
  · rw [if_neg hj, List.getElem?_eq_none (by simp [vM]; omega)]

theorem mark_fill1 {K : Int} {f : Nat → Value} {k : Nat} (hf : ∀ j, j < k * 1 → f j = .int .i64 (K + (j : Int))) (j : Nat) (hj : j < (k + 1) * 1) : (fun j => (if j = k then Value.int .i64 (K + (k : Int)) else f j)) j = .int .i64 (K + (j : Int)) := by
  have hlast : ¬ (j = k * 1 + 0) → f j = .int .i64 (K + (j : Int)) := fun h => hf j (by omega)
  show (if j = k then Value.int .i64 (K + (k : Int)) else f j) = _
  (repeat' split)
  all_goals first
    | (congr 1; omega)
    | exact hlast (by omega)

theorem mark_fill6 {K : Int} {f : Nat → Value} {k : Nat} (hf : ∀ j, j < k * 6 → f j = .int .i64 (K + (j : Int))) (j : Nat) (hj : j < (k + 1) * 6) : (fun j => (if j = k * 6 + 5 then Value.int .i64 (K + (k : Int) * 6 + 1 + 1 + 1 + 1 + 1) else (if j = k * 6 + 4 then Value.int .i64 (K + (k : Int) * 6 + 1 + 1 + 1 + 1) else (if j = k * 6 + 3 then Value.int .i64 (K + (k : Int) * 6 + 1 + 1 + 1) else (if j = k * 6 + 2 then Value.int .i64 (K + (k : Int) * 6 + 1 + 1) else (if j = k * 6 + 1 then Value.int .i64 (K + (k : Int) * 6 + 1) else (if j = k * 6 then Value.int .i64 (K + (k : Int) * 6) else f j))))))) j = .int .i64 (K + (j : Int)) := by
  have hlast : ¬ (j = k * 6 + 0 ∨ j = k * 6 + 1 ∨ j = k * 6 + 2 ∨ j = k * 6 + 3 ∨ j = k * 6 + 4 ∨ j = k * 6 + 5) → f j = .int .i64 (K + (j : Int)) := fun h => hf j (by omega)
  show (if j = k * 6 + 5 then Value.int .i64 (K + (k : Int) * 6 + 1 + 1 + 1 + 1 + 1) else (if j = k * 6 + 4 then Value.int .i64 (K + (k : Int) * 6 + 1 + 1 + 1 + 1) else (if j = k * 6 + 3 then Value.int .i64 (K + (k : Int) * 6 + 1 + 1 + 1) else (if j = k * 6 + 2 then Value.int .i64 (K + (k : Int) * 6 + 1 + 1) else (if j = k * 6 + 1 then Value.int .i64 (K + (k : Int) * 6 + 1) else (if j = k * 6 then Value.int .i64 (K + (k : Int) * 6) else f j)))))) = _
  (repeat' split)
  all_goals first
    | (congr 1; omega)
    | exact hlast (by omega)

theorem mark_fill8 {K : Int} {f : Nat → Value} {k : Nat} (hf : ∀ j, j < k * 8 → f j = .int .i64 (K + (j : Int))) (j : Nat) (hj : j < (k + 1) * 8) : (fun j => (if j = k * 8 + 7 then Value.int .i64 (K + (k : Int) * 8 + 1 + 1 + 1 + 1 + 1 + 1 + 1) else (if j = k * 8 + 6 then Value.int .i64 (K + (k : Int) * 8 + 1 + 1 + 1 + 1 + 1 + 1) else (if j = k * 8 + 5 then Value.int .i64 (K + (k : Int) * 8 + 1 + 1 + 1 + 1 + 1) else (if j = k * 8 + 4 then Value.int .i64 (K + (k : Int) * 8 + 1 + 1 + 1 + 1) else (if j = k * 8 + 3 then Value.int .i64 (K + (k : Int) * 8 + 1 + 1 + 1) else (if j = k * 8 + 2 then Value.int .i64 (K + (k : Int) * 8 + 1 + 1) else (if j = k * 8 + 1 then Value.int .i64 (K + (k : Int) * 8 + 1) else (if j = k * 8 then Value.int .i64 (K + (k : Int) * 8) else f j))))))))) j = .int .i64 (K + (j : Int)) := by
  have hlast : ¬ (j = k * 8 + 0 ∨ j = k * 8 + 1 ∨ j = k * 8 + 2 ∨ j = k * 8 + 3 ∨ j = k * 8 + 4 ∨ j = k * 8 + 5 ∨ j = k * 8 + 6 ∨ j = k * 8 + 7) → f j = .int .i64 (K + (j : Int)) := fun h => hf j (by omega)
  show (if j = k * 8 + 7 then Value.int .i64 (K + (k : Int) * 8 + 1 + 1 + 1 + 1 + 1 + 1 + 1) else (if j = k * 8 + 6 then Value.int .i64 (K + (k : Int) * 8 + 1 + 1 + 1 + 1 + 1 + 1) else (if j = k * 8 + 5 then Value.int .i64 (K + (k : Int) * 8 + 1 + 1 + 1 + 1 + 1) else (if j = k * 8 + 4 then Value.int .i64 (K + (k : Int) * 8 + 1 + 1 + 1 + 1) else (if j = k * 8 + 3 then Value.int .i64 (K + (k : Int) * 8 + 1 + 1 + 1) else (if j = k * 8 + 2 then Value.int .i64 (K + (k : Int) * 8 + 1 + 1) else (if j = k * 8 + 1 then Value.int .i64 (K + (k : Int) * 8 + 1) else (if j = k * 8 then Value.int .i64 (K + (k : Int) * 8) else f j)))))))) = _
  (repeat' split)
  all_goals first
    | (congr 1; omega)
    | exact hlast (by omega)

set_option maxHeartbeats 4000000 in
set_option maxRecDepth 100000 in
theorem markI_any (v : Value) (n : Nat) (xs : List Value) (K : Int) (w : World) (lo hi : Nat) (ho : OwC w lo hi 2 1 v n xs) (hK : 0 ≤ K) (hn : K + (n : Int) ≤ 1000000000000) :
    Calls Try.prog 42 #[v, .int .i64 K] w fun e w' => e = .returned (.int .i64 (K + (n : Int))) ∧ OwC w' lo hi 2 1 v n (vM K (n * 1)) ∧ Only lo hi w w' := by
  rcases ho.2 with ⟨rfl, A, c, rfl⟩ | ⟨g, cap, cur, rfl, hlo, hhi, hg, hnc, hcap, hsz, hx⟩
  · go_enter Try.func42, Try.ntmps42
    go_wp2
    go_loopw [1, 5] (fun t i wr => t = .int .i64 K ∧ i = .int .i64 0 ∧ w = wr) (fun _ i _ => 0 - (intOf i).toNat)
    case atStart => exact ⟨rfl, rfl, rfl⟩
    case round =>
      rename_i wr
      obtain ⟨rfl, rfl, rfl⟩ := hrel
      go_wp2
      go_ret
      exact ⟨ret_int (by simp), ⟨by simp [vM], .inl ⟨rfl, A, c, rfl⟩⟩, Only.refl _ _ _⟩
  · have hrow0 : w.rowIs g 2 (cap * 1) (fun i => cur.getD i undef) := ⟨cur, hg, hsz, fun i hi => row_getD (by omega)⟩
    have HR0 := Lib.hid hrow0
    have Hnc := Lib.hid hnc
    clear hx hg hrow0 ho hsz hnc
    go_enter Try.func42, Try.ntmps42
    go_wp2
    go_loopw [1, 5] (fun t i wr => ∃ (k : Nat) (f : Nat → Value), k ≤ n ∧ i = .int .i64 k ∧ t = .int .i64 (K + (k : Int)) ∧ wr.rowIs g 2 (cap * 1) f ∧ Hid (∀ j, j < k * 1 → f j = .int .i64 (K + j)) ∧ Only lo hi w wr) (fun _ i _ => n - (intOf i).toNat)
    case atStart => exact ⟨0, _, Nat.zero_le _, rfl, by simp, HR0.out, fun j hj => absurd hj (by omega), Only.refl _ _ _⟩
    case round =>
      rename_i wr
      obtain ⟨k, f, hk, rfl, rfl, hrow, hf, hO⟩ := hrel
      by_cases hlt : k < n
      · have hcc := Hnc.out
        have d0 := hrow.cell (i := k) (by omega)
        have g0 := fun i => hrow.frozen i
        have HR := Lib.hid hrow
        have HO := Lib.hid hO
        clear hrow hO hcc
        go_wp2
        exact ⟨⟨k + 1, _, by omega, by go_num, by first | go_num | (congr 1; push_cast; omega), (HR.out.set _ _), fun j hj => mark_fill1 hf.out j hj, (HO.out.setCell hlo hhi _)⟩, by simp [intOf]; omega⟩
      · have HR := Lib.hid hrow
        have HO := Lib.hid hO
        clear hrow hO
        obtain rfl : k = n := by omega
        go_wp2
        go_ret
        refine ⟨rfl, ⟨by simp [vM], .inr ?_⟩, HO.out⟩
        obtain ⟨cur', h1, h2, h3⟩ := HR.out
        have hcc : k * 1 ≤ cap * 1 := Nat.mul_le_mul_right _ Hnc.out
        exact ⟨g, cap, cur', rfl, hlo, hhi, h1, Hnc.out, hcap, h2, take_vM hcc h2 h3 hf.out⟩

set_option maxHeartbeats 4000000 in
set_option maxRecDepth 100000 in
theorem heldI_any (v : Value) (n : Nat) (K : Int) (w : World) (lo hi : Nat) (ho : OwC w lo hi 2 1 v n (vM K (n * 1))) (hK : 0 ≤ K) (hn : K + (n : Int) ≤ 1000000000000) :
    Calls Try.prog 43 #[v, .int .i64 K] w fun e w' => e = .returned (.int .i64 (K + (n : Int))) ∧ w = w' := by
  obtain ⟨A, c, rfl, hln, gl⟩ := ho.cells
  clear ho
  go_enter Try.func43, Try.ntmps43
  go_wp2
  go_loop [1, 5] (fun t i => ∃ k : Nat, k ≤ n ∧ i = .int .i64 k ∧ t = .int .i64 (K + (k : Int))) (fun _ i => n - (intOf i).toNat)
  case atStart => exact ⟨0, Nat.zero_le _, rfl, by simp⟩
  case round =>
    obtain ⟨k, hk, rfl, rfl⟩ := hrel
    by_cases hlt : k < n
    · obtain ⟨g, rfl, hg1, hg2, _, hc⟩ := gl k hlt
      have d0 : w.cell? ⟨g, k, none⟩ = some (.int .i64 (K + (k : Int))) := hc (k) _ (by omega) (vM_get (by omega) (by push_cast; omega))
      clear hc gl hg1 hg2
      go_wp2
      exact ⟨⟨k + 1, by omega, by go_num, by first | go_num | (congr 1; push_cast; omega)⟩, by simp [intOf]; omega⟩
    · obtain rfl : k = n := by omega
      clear gl
      go_wp2
      go_ret
      exact ⟨rfl, rfl⟩

set_option maxHeartbeats 4000000 in
set_option maxRecDepth 100000 in
theorem markE_any (v : Value) (n : Nat) (xs : List Value) (K : Int) (w : World) (lo hi : Nat) (ho : OwC w lo hi 61 6 v n xs) (hK : 0 ≤ K) (hn : K + (n : Int) * 6 ≤ 1000000000000) :
    Calls Try.prog 19 #[v, .int .i64 K] w fun e w' => e = .returned (.int .i64 (K + (n : Int) * 6)) ∧ OwC w' lo hi 61 6 v n (vM K (n * 6)) ∧ Only lo hi w w' := by
  rcases ho.2 with ⟨rfl, A, c, rfl⟩ | ⟨g, cap, cur, rfl, hlo, hhi, hg, hnc, hcap, hsz, hx⟩
  · go_enter Try.func19, Try.ntmps19
    go_wp2
    go_loopw [1, 5] (fun t i wr => t = .int .i64 K ∧ i = .int .i64 0 ∧ w = wr) (fun _ i _ => 0 - (intOf i).toNat)
    case atStart => exact ⟨rfl, rfl, rfl⟩
    case round =>
      rename_i wr
      obtain ⟨rfl, rfl, rfl⟩ := hrel
      go_wp2
      go_ret
      exact ⟨ret_int (by simp), ⟨by simp [vM], .inl ⟨rfl, A, c, rfl⟩⟩, Only.refl _ _ _⟩
  · have hrow0 : w.rowIs g 61 (cap * 6) (fun i => cur.getD i undef) := ⟨cur, hg, hsz, fun i hi => row_getD (by omega)⟩
    have HR0 := Lib.hid hrow0
    have Hnc := Lib.hid hnc
    clear hx hg hrow0 ho hsz hnc
    go_enter Try.func19, Try.ntmps19
    go_wp2
    go_loopw [1, 5] (fun t i wr => ∃ (k : Nat) (f : Nat → Value), k ≤ n ∧ i = .int .i64 k ∧ t = .int .i64 (K + (k : Int) * 6) ∧ wr.rowIs g 61 (cap * 6) f ∧ Hid (∀ j, j < k * 6 → f j = .int .i64 (K + j)) ∧ Only lo hi w wr) (fun _ i _ => n - (intOf i).toNat)
    case atStart => exact ⟨0, _, Nat.zero_le _, rfl, by simp, HR0.out, fun j hj => absurd hj (by omega), Only.refl _ _ _⟩
    case round =>
      rename_i wr
      obtain ⟨k, f, hk, rfl, rfl, hrow, hf, hO⟩ := hrel
      by_cases hlt : k < n
      · have hcc := Hnc.out
        have d0 := hrow.cell (i := k * 6) (by omega)
        have d1 := hrow.cell (i := k * 6 + 1) (by omega)
        have d2 := hrow.cell (i := k * 6 + 2) (by omega)
        have d3 := hrow.cell (i := k * 6 + 3) (by omega)
        have d4 := hrow.cell (i := k * 6 + 4) (by omega)
        have d5 := hrow.cell (i := k * 6 + 5) (by omega)
        have g0 := fun i => hrow.frozen i
        have HR := Lib.hid hrow
        have HO := Lib.hid hO
        clear hrow hO hcc
        go_wp2
        exact ⟨⟨k + 1, _, by omega, by go_num, by first | go_num | (congr 1; push_cast; omega), ((((((HR.out.set _ _).set _ _).set _ _).set _ _).set _ _).set _ _), fun j hj => mark_fill6 hf.out j hj, ((((((HO.out.setCell hlo hhi _).setCell hlo hhi _).setCell hlo hhi _).setCell hlo hhi _).setCell hlo hhi _).setCell hlo hhi _)⟩, by simp [intOf]; omega⟩
      · have HR := Lib.hid hrow
        have HO := Lib.hid hO
        clear hrow hO
        obtain rfl : k = n := by omega
        go_wp2
        go_ret
        refine ⟨rfl, ⟨by simp [vM], .inr ?_⟩, HO.out⟩
        obtain ⟨cur', h1, h2, h3⟩ := HR.out
        have hcc : k * 6 ≤ cap * 6 := Nat.mul_le_mul_right _ Hnc.out
        exact ⟨g, cap, cur', rfl, hlo, hhi, h1, Hnc.out, hcap, h2, take_vM hcc h2 h3 hf.out⟩

set_option maxHeartbeats 4000000 in
set_option maxRecDepth 100000 in
theorem heldE_any (v : Value) (n : Nat) (K : Int) (w : World) (lo hi : Nat) (ho : OwC w lo hi 61 6 v n (vM K (n * 6))) (hK : 0 ≤ K) (hn : K + (n : Int) * 6 ≤ 1000000000000) :
    Calls Try.prog 24 #[v, .int .i64 K] w fun e w' => e = .returned (.int .i64 (K + (n : Int) * 6)) ∧ w = w' := by
  obtain ⟨A, c, rfl, hln, gl⟩ := ho.cells
  clear ho
  go_enter Try.func24, Try.ntmps24
  go_wp2
  go_loop [1, 5] (fun t i => ∃ k : Nat, k ≤ n ∧ i = .int .i64 k ∧ t = .int .i64 (K + (k : Int) * 6)) (fun _ i => n - (intOf i).toNat)
  case atStart => exact ⟨0, Nat.zero_le _, rfl, by simp⟩
  case round =>
    obtain ⟨k, hk, rfl, rfl⟩ := hrel
    by_cases hlt : k < n
    · obtain ⟨g, rfl, hg1, hg2, _, hc⟩ := gl k hlt
      have d0 : w.cell? ⟨g, k * 6, none⟩ = some (.int .i64 (K + (k : Int) * 6)) := hc (k * 6) _ (by omega) (vM_get (by omega) (by push_cast; omega))
      have d1 : w.cell? ⟨g, k * 6 + 1, none⟩ = some (.int .i64 (K + (k : Int) * 6 + 1)) := hc (k * 6 + 1) _ (by omega) (vM_get (by omega) (by push_cast; omega))
      have d2 : w.cell? ⟨g, k * 6 + 2, none⟩ = some (.int .i64 (K + (k : Int) * 6 + 1 + 1)) := hc (k * 6 + 2) _ (by omega) (vM_get (by omega) (by push_cast; omega))
      have d3 : w.cell? ⟨g, k * 6 + 3, none⟩ = some (.int .i64 (K + (k : Int) * 6 + 1 + 1 + 1)) := hc (k * 6 + 3) _ (by omega) (vM_get (by omega) (by push_cast; omega))
      have d4 : w.cell? ⟨g, k * 6 + 4, none⟩ = some (.int .i64 (K + (k : Int) * 6 + 1 + 1 + 1 + 1)) := hc (k * 6 + 4) _ (by omega) (vM_get (by omega) (by push_cast; omega))
      have d5 : w.cell? ⟨g, k * 6 + 5, none⟩ = some (.int .i64 (K + (k : Int) * 6 + 1 + 1 + 1 + 1 + 1)) := hc (k * 6 + 5) _ (by omega) (vM_get (by omega) (by push_cast; omega))
      clear hc gl hg1 hg2
      go_wp2
      exact ⟨⟨k + 1, by omega, by go_num, by first | go_num | (congr 1; push_cast; omega)⟩, by simp [intOf]; omega⟩
    · obtain rfl : k = n := by omega
      clear gl
      go_wp2
      go_ret
      exact ⟨rfl, rfl⟩

end Go.Proofs.Ytfeonaocmnpkcaa

/-
  SameEvents of program and reference, the library's slices.Equal at events, and the laws' count of events.
-/
namespace Go.Proofs.Ytfeonaocmnpkcaa
set_option linter.unusedVariables false
set_option linter.unusedSimpArgs false
open Go.RowKit

def szOf (left : Int) (n : Nat) : Int := if (n : Int) ≤ left then left - n else -1
theorem szOf_no {left : Int} {n : Nat} (h : ¬ (n : Int) ≤ left) : szOf left n = -1 := by simp [szOf, h]
theorem szOf_yes {left : Int} {n : Nat} (h : (n : Int) ≤ left) : szOf left n = left - n := by simp [szOf, h]

/- szTS: szEventS theorem's name · laws.szEventS function · RdE the reading's predicate · Ev element type -/
theorem szEventS_any (v : Value) (l : List Ev) (left : Int) (w : World) (B : Nat) (hl : RdE w B v l) (h0 : 0 ≤ left) (h1 : left ≤ 1048576) :
    Calls Try.prog 13 #[v, .int .i64 left] w fun e w' => e = .returned (.int .i64 (szOf left l.length)) ∧ w = w' := by
  obtain ⟨A, n, c, rfl, hln, hl, gl⟩ := hl
  rw [hl.out]
  clear gl
  by_cases h : (n : Int) ≤ left
  · have hs : szOf left n = left - n := by simp [szOf, h]
    have HS := Lib.hid hs
    clear hs
    go_enter Try.func13, Try.ntmps13
    go_wp2
    go_ret
    exact ⟨ret_int HS.out.symm, rfl⟩
  · have hs : szOf left n = -1 := by simp [szOf, h]
    have HS := Lib.hid hs
    clear hs
    go_enter Try.func13, Try.ntmps13
    go_wp2
    go_ret
    exact ⟨ret_int HS.out.symm, rfl⟩

/- a loop that compares two slices of six-cell structs by '!=': specSameEvents theorem's name · spec.SameEvents function · [5] the counter's slots ·  kind of loop (for | range) -/
set_option maxHeartbeats 1000000 in
theorem specSameEvents_any (v u : Value) (l m : List Ev) (w : World) (B : Nat) (hl : RdE w B v l) (hm : RdE w B u m) (hB : B ≤ w.heap.size) :
    Calls Try.prog 53 #[v, u] w fun x w' => x = .returned (.bool (decide (l = m))) ∧ Below w.heap.size w w' := by
  obtain ⟨A, n, c, rfl, hln, hl, gl⟩ := hl
  obtain ⟨A', n', c', rfl, hmn, hm, gm⟩ := hm
  by_cases hlen : n = n'
  · subst hlen
    go_enter Try.func53, Try.ntmps53
    go_wp2
    go_loopw [5] (fun  i wr => ∃ k : Nat, k ≤ n ∧ i = .int .i64 k ∧ Hid (decide (l = m) = decide (l.drop k = m.drop k)) ∧ Below w.heap.size w wr) (fun  i _ => n - (intOf i).toNat)
    case atStart => exact ⟨0, Nat.zero_le _, rfl, rfl, Below.refl _ _⟩
    case round =>
      rename_i wr
      obtain ⟨k, hk, rfl, hd, hb⟩ := hrel
      by_cases hlt : k < n
      · obtain ⟨b, off, x, rfl, hbb, hlk, hc⟩ := gl k hlt
        obtain ⟨b', off', y, rfl, hbb', hmk, hc'⟩ := gm k hlt
        obtain ⟨e0, e1, e2, e3, e4, e5⟩ := (hc.below hb (Nat.lt_of_lt_of_le hbb hB)).grow6
        obtain ⟨f0, f1, f2, f3, f4, f5⟩ := (hc'.below hb (Nat.lt_of_lt_of_le hbb' hB)).grow6
        have HB := Lib.hid hb
        have Hl := Lib.hid hlk
        have Hm := Lib.hid hmk
        have hne := neq_ev x y
        clear hc hc' hlk hmk hb gl gm
        go_wp2
        refine wp_region_grow (by kernel_rfl) (by kernel_rfl) ?_
        repeat (go_big_quiet_step (fail))
        refine wpQuiet_nil ?_
        intro w1 hb1
        have HB1 := HB.out.trans (hb1.mono HB.out.size)
        go_wp2
        · go_ret
          exact ⟨ret_bool (by rw [hd.out, drop_of_get Hl.out, drop_of_get Hm.out]; simp_all), HB1⟩
        · exact ⟨⟨k + 1, by omega, by go_num, by unfold Hid; rw [hd.out, drop_of_get Hl.out, drop_of_get Hm.out]; simp_all, HB1⟩, by simp [intOf]; omega⟩
      · have HB := Lib.hid hb
        clear hb gl gm
        go_wp2
        go_ret
        exact ⟨ret_bool (by rw [hd.out, List.drop_of_length_le (by have := hl.out; omega), List.drop_of_length_le (by have := hm.out; omega)]; simp), HB.out⟩
  · have hd1 : ((n : Int) != (n' : Int)) = true := by simp; omega
    go_enter Try.func53, Try.ntmps53
    go_wp2
    go_ret
    exact ⟨ret_bool (by symm; simp; rintro rfl; exact hlen (hl.out.symm.trans hm.out)), Below.refl _ _⟩
/- a loop that compares two slices of six-cell structs by '!=': eqlEvents theorem's name · slices.Equal[[]impl.Event,impl.Event] function · [5, 13] the counter's slots · _ kind of loop (for | range) -/
set_option maxHeartbeats 1000000 in
theorem eqlEvents_any (v u : Value) (l m : List Ev) (w : World) (B : Nat) (hl : RdE w B v l) (hm : RdE w B u m) (hB : B ≤ w.heap.size) :
    Calls Try.prog 34 #[v, u] w fun x w' => x = .returned (.bool (decide (l = m))) ∧ Below w.heap.size w w' := by
  obtain ⟨A, n, c, rfl, hln, hl, gl⟩ := hl
  obtain ⟨A', n', c', rfl, hmn, hm, gm⟩ := hm
  by_cases hlen : n = n'
  · subst hlen
    go_enter Try.func34, Try.ntmps34
    go_wp2
    go_loopw [5, 13] (fun _ i wr => ∃ k : Nat, k ≤ n ∧ i = .int .i64 k ∧ Hid (decide (l = m) = decide (l.drop k = m.drop k)) ∧ Below w.heap.size w wr) (fun _ i _ => n - (intOf i).toNat)
    case atStart => exact ⟨0, Nat.zero_le _, rfl, rfl, Below.refl _ _⟩
    case round =>
      rename_i wr
      obtain ⟨k, hk, rfl, hd, hb⟩ := hrel
      by_cases hlt : k < n
      · obtain ⟨b, off, x, rfl, hbb, hlk, hc⟩ := gl k hlt
        obtain ⟨b', off', y, rfl, hbb', hmk, hc'⟩ := gm k hlt
        obtain ⟨e0, e1, e2, e3, e4, e5⟩ := (hc.below hb (Nat.lt_of_lt_of_le hbb hB)).grow6
        obtain ⟨f0, f1, f2, f3, f4, f5⟩ := (hc'.below hb (Nat.lt_of_lt_of_le hbb' hB)).grow6
        have HB := Lib.hid hb
        have Hl := Lib.hid hlk
        have Hm := Lib.hid hmk
        have hne := neq_ev x y
        clear hc hc' hlk hmk hb gl gm
        go_wp2
        refine wp_region_grow (by kernel_rfl) (by kernel_rfl) ?_
        repeat (go_big_quiet_step (fail))
        refine wpQuiet_nil ?_
        intro w1 hb1
        have HB1 := HB.out.trans (hb1.mono HB.out.size)
        go_wp2
        · go_ret
          exact ⟨ret_bool (by rw [hd.out, drop_of_get Hl.out, drop_of_get Hm.out]; simp_all), HB1⟩
        · exact ⟨⟨k + 1, by omega, by go_num, by unfold Hid; rw [hd.out, drop_of_get Hl.out, drop_of_get Hm.out]; simp_all, HB1⟩, by simp [intOf]; omega⟩
      · have HB := Lib.hid hb
        clear hb gl gm
        go_wp2
        go_ret
        exact ⟨ret_bool (by rw [hd.out, List.drop_of_length_le (by have := hl.out; omega), List.drop_of_length_le (by have := hm.out; omega)]; simp), HB.out⟩
  · have hd1 : ((n : Int) != (n' : Int)) = true := by simp; omega
    go_enter Try.func34, Try.ntmps34
    go_wp2
    go_ret
    exact ⟨ret_bool (by symm; simp; rintro rfl; exact hlen (hl.out.symm.trans hm.out)), Below.refl _ _⟩

end Go.Proofs.Ytfeonaocmnpkcaa

/-
  Braids as plain data, and what the laws' helpers for braids do.
-/
namespace Go.Proofs.Ytfeonaocmnpkcaa
set_option linter.unusedVariables false
set_option linter.unusedSimpArgs false
open Go.RowKit

structure Br where
  n : Int
  w : List Int
deriving DecidableEq

/-- A braid by value that reads as b, its word below block B. -/
def RdBr (w : World) (B : Nat) (v : Value) (b : Br) : Prop := ∃ s, v = .agg #[.int .i64 b.n, s] ∧ RdI w B s b.w
/-- A braid by value whose word is the caller's own. -/
def OwBr (w : World) (lo hi : Nat) (v : Value) (b : Br) : Prop := ∃ s, v = .agg #[.int .i64 b.n, s] ∧ OwC w lo hi 2 1 s b.w.length (vI b.w)

theorem RdI.up {w w' : World} {B : Nat} {v : Value} {l : List Int} (h : RdI w B v l) (hb : Below B w w') (hB : B ≤ w'.heap.size) : RdI w' w'.heap.size v l := (h.below hb).more hB
theorem RdI.shape {w : World} {B : Nat} {v : Value} {l : List Int} (h : RdI w B v l) : ∃ A n c, v = .slice A n c := by
  obtain ⟨A, n, c, rfl, _⟩ := h
  exact ⟨A, n, c, rfl⟩
theorem RdBr.of_own {w : World} {lo hi : Nat} {v : Value} {b : Br} (h : OwBr w lo hi v b) : RdBr w hi v b := by
  obtain ⟨s, hv, ho⟩ := h
  exact ⟨s, hv, RdI.of_own ho⟩
theorem RdBr.below {w w' : World} {B : Nat} {v : Value} {b : Br} (h : RdBr w B v b) (hb : Below B w w') : RdBr w' B v b := by
  obtain ⟨s, hv, ho⟩ := h
  exact ⟨s, hv, ho.below hb⟩
theorem RdBr.more {w : World} {B B' : Nat} {v : Value} {b : Br} (h : RdBr w B v b) (hB : B ≤ B') : RdBr w B' v b := by
  obtain ⟨s, hv, ho⟩ := h
  exact ⟨s, hv, ho.more hB⟩
theorem OwBr.below {w w' : World} {lo hi : Nat} {v : Value} {b : Br} (h : OwBr w lo hi v b) (hb : Below hi w w') : OwBr w' lo hi v b := by
  obtain ⟨s, hv, ho⟩ := h
  exact ⟨s, hv, ho.below hb⟩
theorem OwBr.only {w w' : World} {lo hi l h : Nat} {v : Value} {b : Br} (ho : OwBr w lo hi v b) (hw : Only l h w w') (hd : hi ≤ l ∨ h ≤ lo) (hs : hi ≤ w.heap.size) : OwBr w' lo hi v b := by
  obtain ⟨s, hv, ho⟩ := ho
  exact ⟨s, hv, ho.only hw hd hs⟩

def GivesBr (w : World) (b : Br) (e : Ending) (w' : World) : Prop := ∃ v, e = .returned v ∧ OwBr w' w.heap.size w'.heap.size v b ∧ Below w.heap.size w w'

set_option maxHeartbeats 1000000 in
theorem toBraid_any (v : Value) (b : Br) (w : World) (hl : RdBr w w.heap.size v b) (hlen : b.w.length ≤ 1048576) :
    Calls Try.prog 32 #[v] w (GivesBr w b) := by
  obtain ⟨s, rfl, hs⟩ := hl
  obtain ⟨A0, n0, c0, rfl⟩ := hs.shape
  have HS := Lib.hid hs
  have HN := Lib.hid hlen
  clear hs hlen
  go_enter Try.func32, Try.ntmps32
  go_wp2_with fail
  refine (toInt64S_any _ b.w _ (HS.out.up ((((Below.refl _ _).alloc (Nat.le_refl _) _).alloc (by simp) _).alloc (by simp; omega) _) (by simp; omega)) HN.out).mono ?_
  rintro e w1 ⟨v1, rfl, ho, hb⟩
  obtain ⟨A1, c1, rfl, -⟩ := ho.cells
  have hc := bcell hb
  have r0 : w1.cell? ⟨w.heap.size + 1, 0, none⟩ = some (.int .i64 0) := by rw [hc.1 _ _ (by simp; try omega)]; simp [go_sem]
  have r1 : w1.cell? ⟨w.heap.size + 1, 1, none⟩ = some (.slice none 0 0) := by rw [hc.1 _ _ (by simp)]; simp [go_sem]
  have r2 : w1.cell? ⟨w.heap.size + 1 + 1, 1, none⟩ = some (.slice none 0 0) := by rw [hc.1 _ _ (by simp)]; simp [go_sem]
  have HO := Lib.hid ho
  have HB := Lib.hid hb
  clear ho hb
  go_wp2
  refine bodyPost_ret (v := .agg #[.int .i64 b.n, .slice A1 b.w.length c1]) (by simp [results, Try.results32, go_sem, r0, r1, r2, World.cell?_setCell_other]) rfl ⟨_, rfl, ⟨_, rfl, ?_⟩, ?_⟩
  · exact ((HO.out.only ((((Only.refl w.heap.size (w.heap.size + 3) w1).setCell (by simp; try omega) (by simp; try omega) _).setCell (by simp; try omega) (by simp; try omega) _).setCell (by simp; try omega) (by simp; try omega) _) (.inr (by simp; try omega)) (Nat.le_refl _)).wide (by simp; try omega) (by simp; try omega))
  · exact ((((((Below.refl _ _).alloc (Nat.le_refl _) _).alloc (by simp) _).alloc (by simp; omega) _).trans (HB.out.mono (by simp; omega))).setCell (by simp; try omega) _ |>.setCell (by simp; try omega) _ |>.setCell (by simp; try omega) _)

set_option maxHeartbeats 1000000 in
theorem eqBraid_any (v u : Value) (a b : Br) (w : World) (hl : RdBr w w.heap.size v a) (hm : RdBr w w.heap.size u b) :
    Calls Try.prog 35 #[v, u] w fun e w' => e = .returned (.bool (decide (a = b))) ∧ Below w.heap.size w w' := by
  obtain ⟨s, rfl, hs⟩ := hl
  obtain ⟨t, rfl, ht⟩ := hm
  obtain ⟨n, wd⟩ := a
  obtain ⟨m, we⟩ := b
  obtain ⟨A0, n0, c0, rfl⟩ := hs.shape
  obtain ⟨A1, n1, c1, rfl⟩ := ht.shape
  have HS := Lib.hid hs
  have HT := Lib.hid ht
  clear hs ht
  simp only at HS HT
  by_cases h : n = m
  · subst h
    have hd : decide ((⟨n, wd⟩ : Br) = ⟨n, we⟩) = decide (wd = we) := by simp
    rw [hd]
    clear hd
    cases hq : decide (wd = we)
    all_goals
      have HQ := Lib.hid hq
      clear hq
      go_enter Try.func35, Try.ntmps35
      go_wp2_with fail
      refine (eqInt64S_any _ _ wd we _ _ (HS.out.up (((Below.refl _ _).alloc (Nat.le_refl _) _).alloc (by simp) _) (by simp; omega)) (HT.out.up (((Below.refl _ _).alloc (Nat.le_refl _) _).alloc (by simp) _) (by simp; omega)) (Nat.le_refl _)).mono ?_
      rintro e w1 ⟨rfl, hb⟩
      rw [HQ.out]
      have HB := Lib.hid ((((Below.refl _ _).alloc (Nat.le_refl _) _).alloc (by simp) _).trans (hb.mono (by simp; omega)))
      clear hb
      go_wp2
      go_ret
      exact ⟨rfl, HB.out⟩
  · have hd : decide ((⟨n, wd⟩ : Br) = ⟨m, we⟩) = false := by simp [h]
    rw [hd]
    have h1 : (n != m) = true := by simpa using h
    go_enter Try.func35, Try.ntmps35
    go_wp2
    go_ret
    exact ⟨rfl, ((Below.refl _ _).alloc (Nat.le_refl _) _).alloc (by simp) _⟩

/- szTS: szInt64S theorem's name · laws.szInt64S function · RdI the reading's predicate · Int element type -/
theorem szInt64S_any (v : Value) (l : List Int) (left : Int) (w : World) (B : Nat) (hl : RdI w B v l) (h0 : 0 ≤ left) (h1 : left ≤ 1048576) :
    Calls Try.prog 50 #[v, .int .i64 left] w fun e w' => e = .returned (.int .i64 (szOf left l.length)) ∧ w = w' := by
  obtain ⟨A, n, c, rfl, hln, hl, gl⟩ := hl
  rw [hl.out]
  clear gl
  by_cases h : (n : Int) ≤ left
  · have hs : szOf left n = left - n := by simp [szOf, h]
    have HS := Lib.hid hs
    clear hs
    go_enter Try.func50, Try.ntmps50
    go_wp2
    go_ret
    exact ⟨ret_int HS.out.symm, rfl⟩
  · have hs : szOf left n = -1 := by simp [szOf, h]
    have HS := Lib.hid hs
    clear hs
    go_enter Try.func50, Try.ntmps50
    go_wp2
    go_ret
    exact ⟨ret_int HS.out.symm, rfl⟩

def szBr (left : Int) (b : Br) : Int := szOf left b.w.length
set_option maxHeartbeats 1000000 in
theorem szBraid_any (v : Value) (b : Br) (left : Int) (w : World) (hl : RdBr w w.heap.size v b) (h0 : 0 ≤ left) (h1 : left ≤ 1048576) :
    Calls Try.prog 29 #[v, .int .i64 left] w fun e w' => e = .returned (.int .i64 (szBr left b)) ∧ Below w.heap.size w w' := by
  obtain ⟨s, rfl, hs⟩ := hl
  obtain ⟨A0, n0, c0, rfl⟩ := hs.shape
  have HS := Lib.hid hs
  clear hs
  unfold szBr
  by_cases h : (b.w.length : Int) ≤ left
  · have HZ := Lib.hid (szOf_yes h)
    rw [HZ.out]
    go_enter Try.func29, Try.ntmps29
    go_wp2_with fail
    refine (szInt64S_any _ b.w _ _ _ (HS.out.up ((Below.refl _ _).alloc (Nat.le_refl _) _) (by simp)) h0 h1).mono ?_
    rintro e w1 ⟨rfl, rfl⟩
    rw [HZ.out]
    go_wp2
    go_ret
    exact ⟨rfl, (Below.refl _ _).alloc (Nat.le_refl _) _⟩
  · have HZ := Lib.hid (szOf_no h)
    rw [HZ.out]
    go_enter Try.func29, Try.ntmps29
    go_wp2_with fail
    refine (szInt64S_any _ b.w _ _ _ (HS.out.up ((Below.refl _ _).alloc (Nat.le_refl _) _) (by simp)) h0 h1).mono ?_
    rintro e w1 ⟨rfl, rfl⟩
    rw [HZ.out]
    go_wp2
    go_ret
    exact ⟨rfl, (Below.refl _ _).alloc (Nat.le_refl _) _⟩



end Go.Proofs.Ytfeonaocmnpkcaa

/-
  Valid braids: ValidBraid and l03Ok.
-/
namespace Go.Proofs.Ytfeonaocmnpkcaa
set_option linter.unusedVariables false
set_option linter.unusedSimpArgs false
open Go.RowKit

/- slices.IndexFunc and slices.ContainsFunc over []int64 at the closure impl.areLetters$1 with one captured variable: letter name · slices.IndexFunc[[]int64,int64], slices.ContainsFunc[[]int64,int64] the instances -/
set_option maxHeartbeats 1000000 in
set_option maxRecDepth 100000 in
theorem letter_index (cap : Value) (p : Int → Bool) (v : Value) (l : List Int) (w : World) (hl : RdI w w.heap.size v l)
    (hf : ∀ x W, Below w.heap.size w W → Calls Try.prog 86 #[.int .i64 x, cap] W fun e w' => e = .returned (.bool (p x)) ∧ Below W.heap.size W w') :
    Calls Try.prog 100 #[v, .func (.func 86) #[] #[cap]] w fun e w' => e = .returned (.int .i64 (idxOf p l)) ∧ Below w.heap.size w w' := by
  obtain ⟨A, n, c, rfl, hln, hl, gl⟩ := hl
  have HF := Lib.hid hf
  clear hf
  go_enter Try.func100, Try.ntmps100
  go_wp2
  go_loopw [5, 8] (fun _ i wr => ∃ k : Nat, k ≤ n ∧ i = .int .i64 k ∧ Hid (idxOf p l = idxFrom p k (l.drop k)) ∧ Below w.heap.size w wr) (fun _ i _ => n - (intOf i).toNat)
  case atStart => exact ⟨0, Nat.zero_le _, rfl, rfl, Below.refl _ _⟩
  case round =>
    rename_i wr
    obtain ⟨k, hk, rfl, hd, hb⟩ := hrel
    by_cases hlt : k < n
    · obtain ⟨b, off, x, rfl, hbb, hlk, hc⟩ := gl k hlt
      have hc1 : wr.cell? ⟨b, off + k, none⟩ = some (.int .i64 x) := (hb.cell (p := ⟨b, off + k, none⟩) hbb).trans hc
      have HB := Lib.hid hb
      have Hl := Lib.hid hlk
      clear hb hlk gl hc
      rcases hp : p x
      · have HP := Lib.hid hp
        go_wp2_with fail
        refine (HF.out x _ HB.out).mono ?_
        rintro e w1 ⟨rfl, hb1⟩
        rw [HP.out]
        go_wp2
        have HB1 := HB.out.trans (hb1.mono HB.out.size)
        exact ⟨⟨k + 1, by omega, by go_num, by unfold Hid; rw [hd.out, drop_of_get Hl.out]; simp [idxFrom, HP.out], HB1⟩, by simp [intOf]; omega⟩
      · have HP := Lib.hid hp
        go_wp2_with fail
        refine (HF.out x _ HB.out).mono ?_
        rintro e w1 ⟨rfl, hb1⟩
        rw [HP.out]
        go_wp2
        go_ret
        exact ⟨ret_int (by rw [hd.out, drop_of_get Hl.out]; simp [idxFrom, HP.out]), HB.out.trans (hb1.mono HB.out.size)⟩
    · have HB := Lib.hid hb
      clear hb gl
      go_wp2
      go_ret
      exact ⟨ret_int (by rw [hd.out, List.drop_of_length_le (by have := hl.out; omega)]; rfl), HB.out⟩

set_option maxHeartbeats 1000000 in
set_option maxRecDepth 100000 in
theorem letter_contains (cap : Value) (p : Int → Bool) (v : Value) (l : List Int) (w : World) (hl : RdI w w.heap.size v l)
    (hf : ∀ x W, Below w.heap.size w W → Calls Try.prog 86 #[.int .i64 x, cap] W fun e w' => e = .returned (.bool (p x)) ∧ Below W.heap.size W w') :
    Calls Try.prog 85 #[v, .func (.func 86) #[] #[cap]] w fun e w' => e = .returned (.bool (l.any p)) ∧ Below w.heap.size w w' := by
  have hi := idxOf_any p l
  have HX := Lib.hid (letter_index cap p v l w hl hf)
  clear hl hf
  generalize hA : l.any p = A at hi ⊢
  generalize hI : idxOf p l = I at hi HX
  clear hI hA
  cases A
  · have h1 : ¬ 0 ≤ I := by simpa using hi
    clear hi
    go_enter Try.func85, Try.ntmps85
    go_wp2_with fail
    refine HX.out.mono ?_
    rintro e w1 ⟨rfl, hb1⟩
    go_wp2
    go_ret
    exact ⟨ret_bool (by simp [h1]), hb1⟩
  · have h1 : 0 ≤ I := by simpa using hi
    clear hi
    go_enter Try.func85, Try.ntmps85
    go_wp2_with fail
    refine HX.out.mono ?_
    rintro e w1 ⟨rfl, hb1⟩
    go_wp2
    go_ret
    exact ⟨ret_bool (by simp [h1]), hb1⟩

def badL (n k : Int) : Bool := decide (k = 0) || !(decide (1 - n ≤ k) && decide (k ≤ n - 1))
def okBr (b : Br) : Bool := (decide (0 ≤ b.n) && decide (b.n ≤ 12)) && (decide (b.w.length ≤ 40) && !(b.w.any (badL b.n)))

set_option maxHeartbeats 1000000 in
theorem letterBad_any (n x : Int) (h0 : 0 ≤ n) (h1 : n ≤ 12) (g : Nat) (w : World) (hc : w.cell? ⟨g, 0, none⟩ = some (.int .i64 n)) :
    Calls Try.prog 86 #[.int .i64 x, .pointer (some ⟨g, 0, none⟩)] w fun e w' => e = .returned (.bool (badL n x)) ∧ Below w.heap.size w w' := by
  unfold badL
  by_cases hx : x = 0
  · subst hx
    go_enter Try.func86, Try.ntmps86
    go_wp2
    go_ret
    exact ⟨rfl, Below.refl _ _⟩
  · have e0 : (x == 0) = false := by simpa using hx
    have e1 : decide (x = 0) = false := by simpa using hx
    rw [e1]
    clear e1 hx
    generalize hB : (decide (1 - n ≤ x) && decide (x ≤ n - 1)) = B
    have HB := Lib.hid hB
    clear hB
    go_enter Try.func86, Try.ntmps86
    go_wp2_with fail
    refine (within_any _ _ _ _).mono ?_
    rintro e w1 ⟨rfl, rfl⟩
    rw [HB.out]
    go_wp2
    go_ret
    exact ⟨ret_bool (by simp), Below.refl _ _⟩

set_option maxHeartbeats 1000000 in
theorem areLetters_any (n : Int) (v : Value) (l : List Int) (h0 : 0 ≤ n) (h1 : n ≤ 12) (w : World) (hl : RdI w w.heap.size v l) :
    Calls Try.prog 70 #[.int .i64 n, v] w fun e w' => e = .returned (.bool (!(l.any (badL n)))) ∧ Below w.heap.size w w' := by
  have HL := Lib.hid hl
  clear hl
  have hA := Lib.hid (rfl : l.any (badL n) = l.any (badL n))
  generalize hq : l.any (badL n) = q at hA ⊢
  have HQ := Lib.hid hq
  clear hA hq
  go_enter Try.func70, Try.ntmps70
  go_wp2_with fail
  refine (letter_contains _ (badL n) _ l _ (HL.out.up ((Below.refl _ _).alloc (Nat.le_refl _) _) (by simp)) (fun x W hW => letterBad_any n x h0 h1 w.heap.size W ?_)).mono ?_
  · rw [(bcell hW).1 _ _ (by simp)]; simp [go_sem]
  rintro e w1 ⟨rfl, hb⟩
  rw [HQ.out]
  have HB := Lib.hid (((Below.refl _ _).alloc (Nat.le_refl _) _).trans (hb.mono (by simp)))
  clear hb
  go_wp2
  go_ret
  exact ⟨rfl, HB.out⟩

theorem isStrands_any (n : Int) (w : World) : Calls Try.prog 69 #[.int .i64 n] w fun e w' => e = .returned (.bool (decide (0 ≤ n) && decide (n ≤ 12))) ∧ w = w' := by
  go_enter Try.func69, Try.ntmps69
  go_wp2_with (go_at_call 84; refine (within_any _ _ _ _).mono ?_; rintro e w' ⟨rfl, rfl⟩)
  go_ret
  exact ⟨rfl, rfl⟩

set_option maxHeartbeats 2000000 in
theorem validBraid_any (v : Value) (b : Br) (w : World) (hl : RdBr w w.heap.size v b) :
    Calls Try.prog 56 #[v] w fun e w' => e = .returned (.bool (okBr b)) ∧ Below w.heap.size w w' := by
  obtain ⟨s, rfl, hs⟩ := hl
  obtain ⟨n, wd⟩ := b
  simp only at hs ⊢
  have hlen : ∃ A n c, s = .slice A n c ∧ wd.length = n := by
    obtain ⟨A, n, c, rfl, _, hl, _⟩ := hs
    exact ⟨A, n, c, rfl, hl.out⟩
  obtain ⟨A0, n0, c0, rfl, hn0⟩ := hlen
  have HS := Lib.hid hs
  clear hs
  have hok : okBr ⟨n, wd⟩ = ((decide (0 ≤ n) && decide (n ≤ 12)) && (decide ((n0 : Int) ≤ 40) && !(wd.any (badL n)))) := by
    unfold okBr
    simp only [hn0]
    rw [show decide ((n0 : Int) ≤ 40) = decide (n0 ≤ 40) by simp; omega]
  rw [hok]
  clear hok hn0
  cases hr : (decide (0 ≤ n) && decide (n ≤ 12))
  · have HR := Lib.hid hr
    clear hr
    go_enter Try.func56, Try.ntmps56
    go_wp2_with fail
    refine (isStrands_any _ _).mono ?_
    rintro e w1 ⟨rfl, rfl⟩
    rw [HR.out]
    go_wp2
    go_ret
    exact ⟨rfl, (Below.refl _ _).alloc (Nat.le_refl _) _⟩
  · obtain ⟨h0, h1⟩ : 0 ≤ n ∧ n ≤ 12 := by simpa using hr
    have HR := Lib.hid hr
    clear hr
    by_cases h40 : (n0 : Int) ≤ 40
    · have e40 : decide ((n0 : Int) ≤ 40) = true := by simpa using h40
      rw [e40]
      clear e40
      have hA := Lib.hid (rfl : wd.any (badL n) = wd.any (badL n))
      generalize hq : wd.any (badL n) = q at hA ⊢
      have HQ := Lib.hid hq
      clear hA hq
      go_enter Try.func56, Try.ntmps56
      go_wp2_with fail
      refine (isStrands_any _ _).mono ?_
      rintro e w1 ⟨rfl, rfl⟩
      rw [HR.out]
      go_wp2_with fail
      refine (areLetters_any n _ wd h0 h1 _ (HS.out.up ((Below.refl _ _).alloc (Nat.le_refl _) _) (by simp))).mono ?_
      rintro e w1 ⟨rfl, hb⟩
      rw [HQ.out]
      have HB := Lib.hid (((Below.refl _ _).alloc (Nat.le_refl _) _).trans (hb.mono (by simp)))
      clear hb
      go_wp2
      go_ret
      exact ⟨rfl, HB.out⟩
    · have e40 : decide ((n0 : Int) ≤ 40) = false := by simpa using h40
      rw [e40]
      clear e40
      go_enter Try.func56, Try.ntmps56
      go_wp2_with fail
      refine (isStrands_any _ _).mono ?_
      rintro e w1 ⟨rfl, rfl⟩
      rw [HR.out]
      go_wp2
      go_ret
      exact ⟨rfl, (Below.refl _ _).alloc (Nat.le_refl _) _⟩

end Go.Proofs.Ytfeonaocmnpkcaa

/-
  StitchesOf of the reference and of the program.
-/
namespace Go.Proofs.Ytfeonaocmnpkcaa
set_option linter.unusedVariables false
set_option linter.unusedSimpArgs false
open Go.RowKit

def isSt (e : Ev) : Bool := e.k != 1
def stOf (l : List Ev) : List Ev := l.filter isSt

theorem st_keep {l acc : List Ev} {k : Nat} {x : Ev} (h : stOf l = acc ++ stOf (l.drop k)) (hx : l[k]? = some x) (hk : isSt x = true) : stOf l = (acc ++ [x]) ++ stOf (l.drop (k + 1)) := by
  rw [h, drop_of_get hx, List.append_assoc]
  congr 1
  simp [stOf, List.filter_cons, hk]
theorem st_drop {l acc : List Ev} {k : Nat} {x : Ev} (h : stOf l = acc ++ stOf (l.drop k)) (hx : l[k]? = some x) (hk : isSt x = false) : stOf l = acc ++ stOf (l.drop (k + 1)) := by
  rw [h, drop_of_get hx]
  congr 1
  simp [stOf, List.filter_cons, hk]
theorem vE_snoc (acc : List Ev) (x : Ev) : vE (acc ++ [x]) = vE acc ++ x.cells := by simp [vE, vS]

theorem cells_one (x : Ev) : ∀ u ∈ x.cells, u.oneCell' = true := by
  intro u hu
  simp at hu
  rcases hu with rfl | rfl | rfl | rfl | rfl | rfl <;> rfl


end Go.Proofs.Ytfeonaocmnpkcaa

/-
  append onto a row of the call's own from whatever source; slices.Clone at events.
-/
namespace Go.Proofs.Ytfeonaocmnpkcaa
set_option linter.unusedVariables false
set_option linter.unusedSimpArgs false
open Go.RowKit

theorem block_of_add (a : Addr) (n : Nat) : (a.add n).block = a.block := by unfold Addr.add; split <;> rfl
theorem add_of_add (a : Addr) (i j : Nat) : (a.add i).add j = a.add (i + j) := by
  unfold Addr.add
  by_cases hi : i = 0 <;> by_cases hj : j = 0 <;> simp [hi, hj, Nat.add_assoc]

def Reads (w : World) (B size : Nat) (A : Option Addr) (n : Nat) (xs : List Value) : Prop :=
  xs.length = n * size ∧ (0 < n → ∃ ad, A = some ad ∧ ad.block < B ∧ ∀ j u, xs[j]? = some u → w.cell? (ad.add j) = some u)

section
variable {w w' : World} {B B' size n : Nat} {A : Option Addr} {xs : List Value}
theorem Reads.none_ : Reads w B size A 0 [] := ⟨by simp, fun h => absurd h (by omega)⟩
theorem Reads.at_ {k : Nat} (h : Reads w B 1 A n xs) (hk : k < n) : ∃ ad u, A = some ad ∧ ad.block < B ∧ xs[k]? = some u ∧ w.cell? (ad.add k) = some u := by
  obtain ⟨ad, e, hb, hc⟩ := h.2 (by omega)
  have hl : k < xs.length := by have := h.1; omega
  exact ⟨ad, xs[k], e, hb, List.getElem?_eq_getElem hl, hc k _ (List.getElem?_eq_getElem hl)⟩
theorem Reads.keep (h : Reads w B size A n xs) (hk : ∀ p : Addr, p.block < B → w'.cell? p = w.cell? p) : Reads w' B size A n xs :=
  ⟨h.1, fun hn => by
    obtain ⟨ad, e, hb, hc⟩ := h.2 hn
    exact ⟨ad, e, hb, fun j u hu => (hk _ (by rw [block_of_add]; exact hb)).trans (hc j u hu)⟩⟩
theorem Reads.more (h : Reads w B size A n xs) (hB : B ≤ B') : Reads w B' size A n xs :=
  ⟨h.1, fun hn => by
    obtain ⟨ad, e, hb, hc⟩ := h.2 hn
    exact ⟨ad, e, by omega, hc⟩⟩
theorem Reads.below (h : Reads w B size A n xs) (hb : Below B w w') : Reads w' B size A n xs := h.keep fun _ hp => hb.cell hp
theorem Reads.drew (h : Reads w B size A n xs) : Reads w.drew B size A n xs := h
theorem Reads.drewN (h : Reads w B size A n xs) (k : Nat) : Reads (w.drewN k) B size A n xs := h
theorem Reads.alloc (h : Reads w B size A n xs) (hB : B ≤ w.heap.size) (o : Obj) : Reads (w.alloc o) B size A n xs := h.keep fun p hp => World.cell?_alloc_lt w o p (by omega)
theorem Reads.setCell (h : Reads w B size A n xs) {p : Addr} (hB : B ≤ p.block) (u : Value) : Reads (w.setCell p u) B size A n xs :=
  h.keep fun q hq => World.cell?_setCell_other w p q u (fun e => by subst e; omega)
theorem Reads.grown (h : Reads w B size A n xs) {row : Option Nat} (hg : w.grownBy w' row) (hB : B ≤ w.heap.size) (hr : ∀ g, row = some g → B ≤ g) : Reads w' B size A n xs :=
  h.keep fun p hp => World.cell?_of_block (hg.block p.block (by omega) (fun e => by have := hr _ e.symm; omega))
theorem Reads.cut (h : Reads w B size A n xs) {k cap : Nat} (hk : k ≤ n) (hc : n ≤ cap) :
    Reads w B size (if cap = k then A else A.map (·.add (k * size))) (n - k) (xs.drop (k * size)) := by
  refine ⟨by rw [List.length_drop, h.1, Nat.sub_mul], fun hn => ?_⟩
  obtain ⟨ad, rfl, hb, hcell⟩ := h.2 (by omega)
  rw [if_neg (by omega)]
  refine ⟨ad.add (k * size), rfl, by rw [block_of_add]; exact hb, fun j u hu => ?_⟩
  rw [add_of_add]
  exact hcell _ u (by rw [← hu, List.getElem?_drop])
theorem Reads.of_own {base : Nat} {e : TypeId} {c : Nat} (h : w.ownsRow base e size (.slice A n c) n xs) : Reads w w.heap.size size A n xs := by
  refine ⟨h.1, fun hn => ?_⟩
  obtain ⟨g, cap, hv, _, hlt⟩ := h.form hn
  have hA : A = some ⟨g, 0, none⟩ := by injection hv
  subst hA
  exact ⟨_, rfl, hlt, h.cells (g := g) rfl⟩
end

section
variable {P : Program} (w : World)

theorem run_append_of_nil (base : Nat) (t ty e : TypeId) (i : TypeInfo) (size : Nat) (ht : P.underlying t = some (.slice e)) (hi : P.info? e = some i)
    (v : Value) (n : Nat) (xs : List Value) (hown : w.ownsRow base e size v n xs) (c : Nat) : (Builtin.append_ #[t, t] ty #[v, .slice none 0 c]).run P w = .ok v w := by
  rcases hown.2 with ⟨rfl, rfl⟩ | ⟨g, cap, cur, rfl, _, _, hnc, _⟩
  · simp [Builtin.append_, run_underlying ht, sizeOf, typeInfo, hi, Builtin.lenOf, Builtin.firstCells]
  · simp [Builtin.append_, run_underlying ht, sizeOf, typeInfo, hi, Builtin.lenOf, Builtin.firstCells, hnc, storeCells]

theorem run_append_any (base : Nat) (t ty e : TypeId) (i : TypeInfo) (z : Value) (size bytes : Nat) (ht : P.underlying t = some (.slice e)) (hi : P.info? e = some i) (hz : i.zero = some z)
    (hsize : i.size = size) (hby : i.bytes = bytes) (hzs : z.cells.size = size) (hsz : 0 < size)
    (v : Value) (n : Nat) (xs : List Value) (hown : w.ownsRow base e size v n xs)
    (B : Nat) (A : Option Addr) (m c : Nat) (news : List Value) (hr : Reads w B size A m news) (h1 : ∀ u ∈ news, u.oneCell' = true)
    (h63 : n + m ≤ maxLen) (hbytes : (n + m) * bytes ≤ 140737488355328) (hbase : base ≤ w.heap.size) :
    ∃ v' w', (Builtin.append_ #[t, t] ty #[v, .slice A m c]).run P w = .ok v' w' ∧ w'.ownsRow base e size v' (n + m) (xs ++ news) ∧ w.grownBy w' v.ownBlock ∧
      (v'.ownBlock = v.ownBlock ∨ v'.ownBlock = some w.heap.size) := by
  rcases A with _ | ad
  · have hm : m = 0 := by
      rcases Nat.eq_zero_or_pos m with h0 | h0
      · exact h0
      · obtain ⟨ad, h, _⟩ := hr.2 h0
        cases h
    subst hm
    have hn : news = [] := List.eq_nil_of_length_eq_zero (by simpa using hr.1)
    subst hn
    exact ⟨v, w, run_append_of_nil w base t ty e i size ht hi v n xs hown c, by simpa using hown, World.grownBy.refl w _, .inl rfl⟩
  · have hcells : ∀ j u, news[j]? = some u → w.cell? (ad.add j) = some u := by
      intro j u hu
      rcases Nat.eq_zero_or_pos m with h0 | h0
      · subst h0
        have hn : news = [] := List.eq_nil_of_length_eq_zero (by simpa using hr.1)
        subst hn
        simp at hu
      · obtain ⟨ad', h, _, hc⟩ := hr.2 h0
        injection h with h
        subst h
        exact hc j u hu
    obtain ⟨v', w', hrun, h2, h3, _, h5⟩ := run_append_own_at (P := P) w base t ty e i z size bytes ht hi hz hsize hby hzs hsz v n xs hown ad m c news hr.1 hcells h1 h63 hbytes hbase
    exact ⟨v', w', hrun, h2, h3, h5⟩

theorem wp_append_any {o : Oper} {a : Act} {K : Act → World → Prop} {Q : Exit → Act → World → Prop} (s x : Operand) (t : TypeId)
    (ho : o.op = .call { callee := .builtin .append, args := #[s, x], argTypes := #[t, t] })
    (base : Nat) (e : TypeId) (i : TypeInfo) (z : Value) (size bytes : Nat) (ht : P.underlying t = some (.slice e)) (hi : P.info? e = some i) (hz : i.zero = some z)
    (hsize : i.size = size) (hby : i.bytes = bytes) (hzs : z.cells.size = size) (hsz : 0 < size)
    (v : Value) (n : Nat) (xs : List Value) (hs : a.eval s = v) (hown : w.ownsRow base e size v n xs)
    (B : Nat) (A : Option Addr) (m c : Nat) (news : List Value) (hx : a.eval x = .slice A m c) (hr : Reads w B size A m news) (h1 : ∀ u ∈ news, u.oneCell' = true)
    (h63 : n + m ≤ maxLen) (hbytes : (n + m) * bytes ≤ 140737488355328) (hbase : base ≤ w.heap.size)
    (h : ∀ v' w', w'.ownsRow base e size v' (n + m) (xs ++ news) → w.grownBy w' v.ownBlock → (v'.ownBlock = v.ownBlock ∨ v'.ownBlock = some w.heap.size) → K (a.put o.dst v') w') : o.wp P a w K Q := by
  obtain ⟨v', w', hrun, h2, h3, h4⟩ := run_append_any (P := P) w base t o.type e i z size bytes ht hi hz hsize hby hzs hsz v n xs hown B A m c news hr h1 h63 hbytes hbase
  unfold Oper.wp execOp
  simp only [ho, resolve, invoke, builtin, Sem.run_bind, Sem.run_pure, Result.andThen_ok, List.map_toArray, List.map_cons, List.map_nil, hs, hx, hrun]
  exact h v' w' h2 h3 h4

theorem wpList_append_any {ops : Array Oper} {rest : List Oper} {o : Oper} {a : Act} {Q : Exit → Act → World → Prop} (hgd : o.guard = none) (s x : Operand) (t : TypeId)
    (ho : o.op = .call { callee := .builtin .append, args := #[s, x], argTypes := #[t, t] })
    (base : Nat) (e : TypeId) (i : TypeInfo) (z : Value) (size bytes : Nat) (ht : P.underlying t = some (.slice e)) (hi : P.info? e = some i) (hz : i.zero = some z)
    (hsize : i.size = size) (hby : i.bytes = bytes) (hzs : z.cells.size = size) (hsz : 0 < size)
    (v : Value) (n : Nat) (xs : List Value) (hs : a.eval s = v) (hown : w.ownsRow base e size v n xs)
    (B : Nat) (A : Option Addr) (m c : Nat) (news : List Value) (hx : a.eval x = .slice A m c) (hr : Reads w B size A m news) (h1 : ∀ u ∈ news, u.oneCell' = true)
    (h63 : n + m ≤ maxLen) (hbytes : (n + m) * bytes ≤ 140737488355328) (hbase : base ≤ w.heap.size)
    (h : ∀ v' w', w'.ownsRow base e size v' (n + m) (xs ++ news) → w.grownBy w' v.ownBlock → (v'.ownBlock = v.ownBlock ∨ v'.ownBlock = some w.heap.size) → wpList P ops Q rest (a.put o.dst v') w') : wpList P ops Q (o :: rest) a w :=
  wpList_plain hgd fun _ hK => wp_append_any w s x t ho base e i z size bytes ht hi hz hsize hby hzs hsz v n xs hs hown B A m c news hx hr h1 h63 hbytes hbase fun v' w' h2 h3 h4 => hK _ _ (h v' w' h2 h3 h4)

theorem step_append_any {ops : Array Oper} {o : Oper} {a : Act} {K : Act → World → Prop} {Q : Exit → Act → World → Prop} {E : Prop} (hgd : o.guard = none) (s x : Operand) (t : TypeId)
    (ho : o.op = .call { callee := .builtin .append, args := #[s, x], argTypes := #[t, t] })
    (base : Nat) (e : TypeId) (i : TypeInfo) (z : Value) (size bytes : Nat) (ht : P.underlying t = some (.slice e)) (hi : P.info? e = some i) (hz : i.zero = some z)
    (hsize : i.size = size) (hby : i.bytes = bytes) (hzs : z.cells.size = size) (hsz : 0 < size)
    (v : Value) (n : Nat) (xs : List Value) (hs : a.eval s = v) (hown : w.ownsRow base e size v n xs)
    (B : Nat) (A : Option Addr) (m c : Nat) (news : List Value) (hx : a.eval x = .slice A m c) (hr : Reads w B size A m news) (h1 : ∀ u ∈ news, u.oneCell' = true)
    (h63 : n + m ≤ maxLen) (hbytes : (n + m) * bytes ≤ 140737488355328) (hbase : base ≤ w.heap.size)
    (h : ∀ v' w', w'.ownsRow base e size v' (n + m) (xs ++ news) → w.grownBy w' v.ownBlock → (v'.ownBlock = v.ownBlock ∨ v'.ownBlock = some w.heap.size) → K (a.put o.dst v') w') :
    if Region.wanted o (yielded ops a.tmps) = true then Oper.wp P o a w K Q else E := by
  have hw : Region.wanted o (yielded ops a.tmps) = true := by simp [Region.wanted, hgd]
  rw [if_pos hw]
  exact wp_append_any w s x t ho base e i z size bytes ht hi hz hsize hby hzs hsz v n xs hs hown B A m c news hx hr h1 h63 hbytes hbase h
end

theorem RdS.reads {α : Type} {cs : α → List Value} {sz : Nat} (hs : ∀ x, (cs x).length = sz) {w : World} {B n c : Nat} {A : Option Addr} {l : List α} (hz : 0 < sz) (h : RdS cs sz w B (.slice A n c) l) : Reads w B sz A n (vS cs l) ∧ l.length = n := by
  obtain ⟨A', n', c', hv, hm, hl, h⟩ := h
  injection hv with e1 e2 e3
  subst e1 e2 e3
  refine ⟨⟨by rw [vS_len hs, hl.out], fun hn => ?_⟩, hl.out⟩
  obtain ⟨b, off, x, hA, hB, _, _⟩ := h 0 hn
  refine ⟨⟨b, off, none⟩, hA, hB, fun j u hu => ?_⟩
  have hj : j < n * sz := by
    have := (List.getElem?_eq_some_iff.1 hu).1
    rw [vS_len hs, hl.out] at this
    exact this
  have hk : j / sz < n := by rw [Nat.div_lt_iff_lt_mul hz]; exact hj
  have hm' := Nat.mod_lt j hz
  have e : j / sz * sz + j % sz = j := by rw [Nat.mul_comm]; exact Nat.div_add_mod j sz
  obtain ⟨b', off', x', hA', _, hx', hc'⟩ := h (j / sz) hk
  rw [hA] at hA'
  injection hA' with hA'
  injection hA' with e1 e2
  subst e1 e2
  have h2 := vS_get hs l (j / sz) x' hx' (j % sz) hm'
  rw [e, hu] at h2
  have h3 := hc' (j % sz) u h2.symm
  rw [Nat.add_assoc, e] at h3
  have e4 : (⟨b, off, none⟩ : Addr).add j = ⟨b, off + j, none⟩ := by unfold Addr.add; split <;> simp_all
  rw [e4]
  exact h3

theorem RdI.reads {w : World} {B : Nat} {A : Option Addr} {n c : Nat} {l : List Int} (h : RdI w B (.slice A n c) l) : Reads w B 1 A n (vI l) ∧ l.length = n := by
  obtain ⟨A', n', c', hv, hm, hl, h⟩ := h
  injection hv with e1 e2 e3
  subst e1 e2 e3
  refine ⟨⟨by simp [vI, hl.out], fun hn => ?_⟩, hl.out⟩
  obtain ⟨b, off, x, rfl, hB, _, _⟩ := h 0 hn
  refine ⟨⟨b, off, none⟩, rfl, hB, fun j u hu => ?_⟩
  have hj : j < n := by
    have := (List.getElem?_eq_some_iff.1 hu).1
    simp [vI] at this
    have := hl.out
    omega
  obtain ⟨b', off', y, e', _, hy, hc⟩ := h j hj
  injection e' with e'
  injection e' with e1 e2
  subst e1 e2
  simp [vI, hy] at hu
  subst hu
  have ea : (⟨b, off, none⟩ : Addr).add j = ⟨b, off + j, none⟩ := by unfold Addr.add; split <;> simp_all
  rw [ea]
  exact hc
theorem vI_one (l : List Int) : ∀ u ∈ vI l, u.oneCell' = true := by
  intro u hu
  simp [vI] at hu
  obtain ⟨x, _, rfl⟩ := hu
  rfl
theorem vI_append (a b : List Int) : vI (a ++ b) = vI a ++ vI b := by simp [vI]

/-- What a function gives that returns a new row of its own. -/
def GivesRow (w : World) (E sz n : Nat) (xs : List Value) (e : Ending) (w' : World) : Prop := ∃ v, e = .returned v ∧ w'.ownsRow w.heap.size E sz v n xs ∧ Below w.heap.size w w'

end Go.Proofs.Ytfeonaocmnpkcaa

/-
  Words for rows of a call's own: kept behind what only adds memory; a slice and a code as the result.
-/
namespace Go.Proofs.Ytfeonaocmnpkcaa
set_option linter.unusedVariables false
set_option linter.unusedSimpArgs false
open Go.RowKit

theorem own_below {w w' : World} {B e size n : Nat} {v : Value} {xs : List Value} (h : w.ownsRow B e size v n xs) (hb : Below w.heap.size w w') : w'.ownsRow B e size v n xs := by
  refine ⟨h.1, ?_⟩
  rcases h.2 with h2 | ⟨g, cap, cur, hv, hg, hh, h3⟩
  · exact .inl h2
  · exact .inr ⟨g, cap, cur, hv, hg, (hb.block g (Array.getElem?_eq_some_iff.1 hh).1).trans hh, h3⟩

/-- A slice of the call's own and a code. -/
def GivesC (w : World) (E sz n : Nat) (xs : List Value) (code : Int) (e : Ending) (w' : World) : Prop :=
  ∃ v, e = .returned (.tuple #[v, .int .i64 code]) ∧ OwC w' w.heap.size w'.heap.size E sz v n xs ∧ Below w.heap.size w w'

theorem OwC.nil {w : World} {lo hi E sz : Nat} {A : Option Addr} {c : Nat} : OwC w lo hi E sz (.slice A 0 c) 0 [] := ⟨by simp, .inl ⟨rfl, A, c, rfl⟩⟩

theorem new_cells' {w : World} (E : TypeId) (us : List Value) {g : Nat} (hg : g = w.heap.size) : ∀ j u, us[j]? = some u → (w.alloc (.cells us.toArray E)).cell? ((⟨g, 0, none⟩ : Addr).add j) = some u := by
  subst hg
  exact new_cells w E us
theorem below_append' {B : Nat} {a w0 w w' : World} {E sz n : Nat} {v : Value} {xs : List Value} (h : Below B a w) (hB : B ≤ w.heap.size) (ho : w0.ownsRow B E sz v n xs) (hs : w0.heap.size ≤ w.heap.size) (hg : w.grownBy w' v.ownBlock) : Below B a w' :=
  h.grown hg hB (fun k hk => (ho.lt k hk).1)


end Go.Proofs.Ytfeonaocmnpkcaa

/-
  BraidEvents: l03Ok, l10Letters, wordEvents, BraidEvents of program and reference.
-/
namespace Go.Proofs.Ytfeonaocmnpkcaa
set_option linter.unusedVariables false
set_option linter.unusedSimpArgs false
open Go.RowKit

def letE (k : Int) : Ev := ⟨1, (if k < 0 then -k else k) - 1, (if k < 0 then -1 else 1), 0, 0, 0⟩
def letsE (l : List Int) : List Ev := l.map letE
theorem letE_neg {k : Int} (h : k < 0) : letE k = ⟨1, -k - 1, -1, 0, 0, 0⟩ := by simp [letE, h]
theorem letE_pos {k : Int} (h : ¬ k < 0) : letE k = ⟨1, k - 1, 1, 0, 0, 0⟩ := by simp [letE, h]

/-- Letters that are letters on at most 12 strands. -/
def Lets (l : List Int) : Prop := ∀ x ∈ l, x ≠ 0 ∧ -11 ≤ x ∧ x ≤ 11
theorem lets_of {b : Br} (h : okBr b = true) : Lets b.w ∧ b.w.length ≤ 40 ∧ 0 ≤ b.n ∧ b.n ≤ 12 := by
  unfold okBr at h
  simp [-List.any_eq_true, -List.any_eq_false] at h
  obtain ⟨⟨h0, h1⟩, h2, h3⟩ := h
  refine ⟨fun x hx => ?_, h2, h0, h1⟩
  have := List.any_eq_false.1 h3 x hx
  unfold badL at this
  simp at this
  omega

theorem lets_snoc {l : List Int} {acc : List Ev} {k : Nat} {x : Int} (h : letsE l = acc ++ letsE (l.drop k)) (hx : l[k]? = some x) : letsE l = (acc ++ [letE x]) ++ letsE (l.drop (k + 1)) := by
  rw [h, drop_of_get hx, List.append_assoc]
  rfl

theorem l03Abs_any (k : Int) (h0 : -11 ≤ k) (h1 : k ≤ 11) (w : World) : Calls Try.prog 77 #[.int .i64 k] w fun e w' => e = .returned (.int .i64 (if k < 0 then -k else k)) ∧ w = w' := by
  by_cases h : k < 0
  all_goals
    go_enter Try.func77, Try.ntmps77
    go_wp2
    go_ret
    exact ⟨ret_int (by simp [h]), rfl⟩

set_option maxHeartbeats 4000000 in
set_option maxRecDepth 100000 in
theorem l10Letters_any (v : Value) (l : List Int) (w : World) (hl : RdI w w.heap.size v l) (hlet : Lets l) (hlen : l.length ≤ 1048576) :
    Calls Try.prog 64 #[v] w (GivesOw w 61 6 (letsE l).length (vE (letsE l))) := by
  obtain ⟨A, n, c, rfl, hln, hl, gl⟩ := hl
  have hn : n ≤ 1048576 := by have := hl.out; omega
  clear hlen
  obtain ⟨i0, hi, hz0, hz1, hz2⟩ := info_parts info_ev
  have HLT := Lib.hid hlet
  clear hlet
  have GL := Lib.hid gl
  clear gl
  go_enter Try.func64, Try.ntmps64
  go_wp2
  go_loopw [3, 4] (fun t i wr => ∃ (k : Nat) (acc : List Ev), k ≤ n ∧ i = .int .i64 k ∧ wr.ownsRow w.heap.size 61 6 t acc.length (vE acc) ∧ acc.length ≤ k ∧ Hid (letsE l = acc ++ letsE (l.drop k)) ∧ Below w.heap.size w wr) (fun _ i _ => n - (intOf i).toNat)
  case atStart => exact ⟨0, [], Nat.zero_le _, rfl, World.ownsRow_lit _ _ _ (Nat.le_refl _) (by unfold maxLen; omega) rfl, Nat.le_refl _, by unfold Hid; simp, (Below.refl _ _).alloc (Nat.le_refl _) _⟩
  case round =>
    rename_i wr
    obtain ⟨k, acc, hk, rfl, hown, hak, hd, hb⟩ := hrel
    by_cases hlt : k < n
    · obtain ⟨b, off, x, rfl, hbb, hlk, hc⟩ := GL.out k hlt
      have hc1 : wr.cell? ⟨b, off + k, none⟩ = some (.int .i64 x) := (hb.cell (p := ⟨b, off + k, none⟩) hbb).trans hc
      have hc2 := fun o => (World.cell?_alloc_lt wr o ⟨b, off + k, none⟩ (block_lt_of_cell hc1)).trans hc1
      obtain ⟨x0, x1, x2⟩ := HLT.out x (List.mem_of_getElem? hlk)
      have HB := Lib.hid hb
      have Hl := Lib.hid hlk
      have HO := Lib.hid hown
      have HD := Lib.hid (lets_snoc hd.out hlk)
      clear hc hb hlk hown hd
      by_cases hx : x < 0
      /- one step of spec.l10Letters: the event ⟨1, -x - 1, -1, 0, 0, 0⟩ -/
      · go_wp2_with fail
        refine (l03Abs_any x x1 x2 _).mono ?_
        rintro e w1 ⟨rfl, rfl⟩
        simp only [hx, if_true, if_false]
        go_wp2_with (at_builtin; refine wpList_append_own _ rfl _ _ 31 rfl w.heap.size 61 i0 _ 6 48 Try.underlying31 hi hz0 hz1 hz2 rfl (by decide) _ _ _ rfl ((HO.out.alloc _).alloc _) ⟨wr.heap.size + 1, 0, none⟩ 1 1 (⟨1, -x - 1, -1, 0, 0, 0⟩ : Ev).cells rfl rfl ?c1 ?c2 ?c3 ?c4 ?c5 ?_)
        case c1 => exact new_cells' _ _ (by simp)
        case c2 => exact cells_one _
        case c3 => unfold maxLen; omega
        case c4 => omega
        case c5 => have := HB.out.size; simp; omega
        intro v' w2 hown2 hgrow2 _
        have HB1 := Lib.hid (below_append' ((HB.out.alloc HB.out.size _).alloc (by have := HB.out.size; simp; omega) _) (by have := HB.out.size; simp; omega) HO.out (by simp; omega) hgrow2)
        have HO1 : Hid (w2.ownsRow w.heap.size 61 6 v' (acc ++ [letE x]).length (vE (acc ++ [letE x]))) := by
          unfold Hid
          rw [vE_snoc, List.length_append, letE_neg (k := x) (by omega)]
          exact hown2
        clear hgrow2 hown2 HB HO
        go_wp2
        exact ⟨⟨k + 1, acc ++ [letE x], by omega, by go_num, HO1.out, by simp; omega, HD.out, HB1.out⟩, by simp [intOf]; omega⟩
      /- one step of spec.l10Letters: the event ⟨1, x - 1, 1, 0, 0, 0⟩ -/
      · go_wp2_with fail
        refine (l03Abs_any x x1 x2 _).mono ?_
        rintro e w1 ⟨rfl, rfl⟩
        simp only [hx, if_true, if_false]
        go_wp2_with (at_builtin; refine wpList_append_own _ rfl _ _ 31 rfl w.heap.size 61 i0 _ 6 48 Try.underlying31 hi hz0 hz1 hz2 rfl (by decide) _ _ _ rfl ((HO.out.alloc _).alloc _) ⟨wr.heap.size + 1, 0, none⟩ 1 1 (⟨1, x - 1, 1, 0, 0, 0⟩ : Ev).cells rfl rfl ?c1 ?c2 ?c3 ?c4 ?c5 ?_)
        case c1 => exact new_cells' _ _ (by simp)
        case c2 => exact cells_one _
        case c3 => unfold maxLen; omega
        case c4 => omega
        case c5 => have := HB.out.size; simp; omega
        intro v' w2 hown2 hgrow2 _
        have HB1 := Lib.hid (below_append' ((HB.out.alloc HB.out.size _).alloc (by have := HB.out.size; simp; omega) _) (by have := HB.out.size; simp; omega) HO.out (by simp; omega) hgrow2)
        have HO1 : Hid (w2.ownsRow w.heap.size 61 6 v' (acc ++ [letE x]).length (vE (acc ++ [letE x]))) := by
          unfold Hid
          rw [vE_snoc, List.length_append, letE_pos (k := x) (by omega)]
          exact hown2
        clear hgrow2 hown2 HB HO
        go_wp2
        exact ⟨⟨k + 1, acc ++ [letE x], by omega, by go_num, HO1.out, by simp; omega, HD.out, HB1.out⟩, by simp [intOf]; omega⟩
    · have HB := Lib.hid hb
      have HO := Lib.hid hown
      have HD := Lib.hid (show letsE l = acc by rw [hd.out, List.drop_of_length_le (by have := hl.out; omega)]; simp [letsE])
      clear hb hown
      go_wp2
      go_ret
      exact ⟨_, rfl, by rw [HD.out]; exact (OwC.of_own HO.out), HB.out⟩

theorem size_any (k : Int) (h0 : -11 ≤ k) (h1 : k ≤ 11) (w : World) : Calls Try.prog 78 #[.int .i64 k] w fun e w' => e = .returned (.int .i64 (if k < 0 then -k else k)) ∧ w = w' := by
  have hm : max k (-k) = if k < 0 then -k else k := by split <;> omega
  by_cases h : k < 0
  all_goals
    go_enter Try.func78, Try.ntmps78
    go_wp2
    all_goals go_ret
    all_goals exact ⟨ret_int (by first | rfl | omega | (split <;> omega)), rfl⟩

set_option maxHeartbeats 4000000 in
set_option maxRecDepth 100000 in
theorem wordEvents_any (v : Value) (l : List Int) (w : World) (hl : RdI w w.heap.size v l) (hlet : Lets l) (hlen : l.length ≤ 1048576) :
    Calls Try.prog 65 #[v] w (GivesOw w 61 6 (letsE l).length (vE (letsE l))) := by
  obtain ⟨A, n, c, rfl, hln, hl, gl⟩ := hl
  have hn : n ≤ 1048576 := by have := hl.out; omega
  clear hlen
  obtain ⟨i0, hi, hz0, hz1, hz2⟩ := info_parts info_ev
  have HLT := Lib.hid hlet
  clear hlet
  have GL := Lib.hid gl
  clear gl
  go_enter Try.func65, Try.ntmps65
  go_wp2
  go_loopw [3, 9] (fun t i wr => ∃ (k : Nat) (acc : List Ev), k ≤ n ∧ i = .int .i64 k ∧ wr.ownsRow w.heap.size 61 6 t acc.length (vE acc) ∧ acc.length ≤ k ∧ Hid (letsE l = acc ++ letsE (l.drop k)) ∧ Below w.heap.size w wr) (fun _ i _ => n - (intOf i).toNat)
  case atStart => exact ⟨0, [], Nat.zero_le _, rfl, World.ownsRow_lit _ _ _ (Nat.le_refl _) (by unfold maxLen; omega) rfl, Nat.le_refl _, by unfold Hid; simp, (Below.refl _ _).alloc (Nat.le_refl _) _⟩
  case round =>
    rename_i wr
    obtain ⟨k, acc, hk, rfl, hown, hak, hd, hb⟩ := hrel
    by_cases hlt : k < n
    · obtain ⟨b, off, x, rfl, hbb, hlk, hc⟩ := GL.out k hlt
      have hc1 : wr.cell? ⟨b, off + k, none⟩ = some (.int .i64 x) := (hb.cell (p := ⟨b, off + k, none⟩) hbb).trans hc
      obtain ⟨x0, x1, x2⟩ := HLT.out x (List.mem_of_getElem? hlk)
      have HB := Lib.hid hb
      have Hl := Lib.hid hlk
      have HO := Lib.hid hown
      have HD := Lib.hid (lets_snoc hd.out hlk)
      clear hc hb hlk hown hd
      obtain ⟨s, hs⟩ : ∃ s, s = (if x < 0 then -x else x) := ⟨_, rfl⟩
      have hs0 : s ≠ 0 := by rw [hs]; split <;> omega
      have hs1 : s - 1 = (if x < 0 then -x else x) - 1 := by rw [hs]
      have hs2 : Int.tdiv x s = if x < 0 then -1 else 1 := by
        rw [hs]
        split
        · rw [Int.tdiv_neg, Int.tdiv_self (by omega)]
        · rw [Int.tdiv_self (by omega)]
      have hs3 : 1 ≤ s ∧ s ≤ 11 := by rw [hs]; split <;> omega
      have HE := Lib.hid (show letE x = ⟨1, s - 1, Int.tdiv x s, 0, 0, 0⟩ by rw [hs1, hs2]; rfl)
      have hz := size_any x x1 x2
      rw [← hs] at hz
      have HZ := Lib.hid hz
      clear hs hs1 hs2 hz
      obtain ⟨s0, s1⟩ := hs3
      go_wp2_with fail
      refine (HZ.out _).mono ?_
      rintro e w1 ⟨rfl, rfl⟩
      go_wp2_with fail
      refine (HZ.out _).mono ?_
      rintro e w1 ⟨rfl, rfl⟩
      go_wp2_with (at_builtin; refine wpList_append_own _ rfl _ _ 31 rfl w.heap.size 61 i0 _ 6 48 Try.underlying31 hi hz0 hz1 hz2 rfl (by decide) _ _ _ rfl (HO.out.alloc _) ⟨wr.heap.size, 0, none⟩ 1 1 (⟨1, s - 1, Int.tdiv x s, 0, 0, 0⟩ : Ev).cells rfl rfl ?c1 ?c2 ?c3 ?c4 ?c5 ?_)
      case c1 => exact new_cells' _ _ rfl
      case c2 => exact cells_one _
      case c3 => unfold maxLen; omega
      case c4 => omega
      case c5 => have := HB.out.size; simp; omega
      intro v' w2 hown2 hgrow2 _
      have HB1 := Lib.hid (below_append' (HB.out.alloc HB.out.size _) (by have := HB.out.size; simp; omega) HO.out (by simp) hgrow2)
      have HO1 : Hid (w2.ownsRow w.heap.size 61 6 v' (acc ++ [letE x]).length (vE (acc ++ [letE x]))) := by
        unfold Hid
        rw [vE_snoc, List.length_append, HE.out]
        exact hown2
      clear hgrow2 hown2 HB HO
      go_wp2
      exact ⟨⟨k + 1, acc ++ [letE x], by omega, by go_num, HO1.out, by simp; omega, HD.out, HB1.out⟩, by simp [intOf]; omega⟩
    · have HB := Lib.hid hb
      have HO := Lib.hid hown
      have HD := Lib.hid (show letsE l = acc by rw [hd.out, List.drop_of_length_le (by have := hl.out; omega)]; simp [letsE])
      clear hb hown
      go_wp2
      go_ret
      exact ⟨_, rfl, by rw [HD.out]; exact (OwC.of_own HO.out), HB.out⟩

set_option maxHeartbeats 4000000 in
theorem l03Letters_any (n : Int) (v : Value) (l : List Int) (h0 : 0 ≤ n) (h1 : n ≤ 12) (w : World) (hl : RdI w w.heap.size v l) :
    Calls Try.prog 52 #[v, .int .i64 n] w fun e w' => e = .returned (.bool (!(l.any (badL n)))) ∧ Below w.heap.size w w' := by
  obtain ⟨A, m, c, rfl, hln, hl, gl⟩ := hl
  have GL := Lib.hid gl
  clear gl
  generalize hR : l.any (badL n) = R
  have HR := Lib.hid hR
  clear hR
  go_enter Try.func52, Try.ntmps52
  go_wp2
  go_loopw [5] (fun i wr => ∃ (k : Nat), k ≤ m ∧ i = .int .i64 k ∧ Hid (R = (l.drop k).any (badL n)) ∧ Below w.heap.size w wr) (fun i _ => m - (intOf i).toNat)
  case atStart => exact ⟨0, Nat.zero_le _, rfl, HR.out.symm, Below.refl _ _⟩
  case round =>
    rename_i wr
    obtain ⟨k, hk, rfl, hd, hb⟩ := hrel
    by_cases hlt : k < m
    · obtain ⟨b, off, x, rfl, hbb, hlk, hc⟩ := GL.out k hlt
      have hc1 : wr.cell? ⟨b, off + k, none⟩ = some (.int .i64 x) := (hb.cell (p := ⟨b, off + k, none⟩) hbb).trans hc
      have hd1 : R = (badL n x || (l.drop (k + 1)).any (badL n)) := by rw [hd.out, drop_of_get hlk]; rfl
      have HB := Lib.hid hb
      have HD := Lib.hid hd1
      clear hc hb hlk hd hd1
      by_cases hx : x = 0
      · subst hx
        have HT := Lib.hid (show R = true by rw [HD.out]; simp [badL])
        go_wp2
        go_ret
        exact ⟨ret_bool (by rw [HT.out]; rfl), HB.out⟩
      · have e0 : (x == 0) = false := by simpa using hx
        cases hq : (decide (1 - n ≤ x) && decide (x ≤ n - 1))
        · have HT := Lib.hid (show R = true by rw [HD.out]; unfold badL; rw [hq]; simp)
          have HQ := Lib.hid hq
          clear hq hx
          go_wp2_with fail
          refine (l00In_any _ _ _ _).mono ?_
          rintro e w1 ⟨rfl, rfl⟩
          rw [HQ.out]
          go_wp2
          go_ret
          exact ⟨ret_bool (by rw [HT.out]; rfl), HB.out⟩
        · have HT := Lib.hid (show R = (l.drop (k + 1)).any (badL n) by rw [HD.out]; unfold badL; rw [hq]; simp [hx])
          have HQ := Lib.hid hq
          clear hq hx
          go_wp2_with fail
          refine (l00In_any _ _ _ _).mono ?_
          rintro e w1 ⟨rfl, rfl⟩
          rw [HQ.out]
          go_wp2
          exact ⟨⟨k + 1, by omega, by go_num, HT.out, HB.out⟩, by simp [intOf]; omega⟩
    · have HB := Lib.hid hb
      have HT := Lib.hid (show R = false by rw [hd.out, List.drop_of_length_le (by have := hl.out; omega)]; rfl)
      clear hb
      go_wp2
      go_ret
      exact ⟨ret_bool (by rw [HT.out]; rfl), HB.out⟩

theorem l00In_yes' {n lo hi : Int} (h : lo ≤ n ∧ n ≤ hi) (w : World) : Calls Try.prog 51 #[.int .i64 n, .int .i64 lo, .int .i64 hi] w fun e w' => e = .returned (.bool true) ∧ Below w.heap.size w w' :=
  (l00In_any n lo hi w).mono fun e w' ⟨h1, h2⟩ => ⟨by rw [h1]; simp [h], by rw [h2]; exact Below.refl _ _⟩
theorem l00In_no' {n lo hi : Int} (h : ¬ (lo ≤ n ∧ n ≤ hi)) (w : World) : Calls Try.prog 51 #[.int .i64 n, .int .i64 lo, .int .i64 hi] w fun e w' => e = .returned (.bool false) ∧ Below w.heap.size w w' :=
  (l00In_any n lo hi w).mono fun e w' ⟨h1, h2⟩ => ⟨by rw [h1]; congr 1; congr 1; rw [Bool.eq_false_iff]; simpa using h, by rw [h2]; exact Below.refl _ _⟩

set_option maxHeartbeats 2000000 in
theorem l03Ok_any (b : Br) (s : Value) (g : Nat) (w : World) (hc : CellsAt w g 0 [.int .i64 b.n, s]) (hs : RdI w w.heap.size s b.w) :
    Calls Try.prog 30 #[.pointer (some ⟨g, 0, none⟩)] w fun e w' => e = .returned (.bool (okBr b)) ∧ Below w.heap.size w w' := by
  obtain ⟨n, wd⟩ := b
  simp only at hc hs ⊢
  obtain ⟨A0, n0, c0, rfl, hn0⟩ : ∃ A n c, s = .slice A n c ∧ wd.length = n := by
    obtain ⟨A, n, c, rfl, _, hl, _⟩ := hs
    exact ⟨A, n, c, rfl, hl.out⟩
  obtain ⟨e0, e1⟩ := hc.grow2
  have HS := fun X => Lib.hid ((hs.below (below_wgrow w X)).more (below_wgrow w X).size)
  clear hs
  have hok : okBr ⟨n, wd⟩ = ((decide (0 ≤ n) && decide (n ≤ 12)) && (decide ((n0 : Int) ≤ 40) && !(wd.any (badL n)))) := by
    unfold okBr
    simp only [hn0]
    rw [show decide ((n0 : Int) ≤ 40) = decide (n0 ≤ 40) by simp; omega]
  rw [hok]
  clear hok hn0 hc
  by_cases hr : 0 ≤ n ∧ n ≤ 12
  · have hr1 : (decide (0 ≤ n) && decide (n ≤ 12)) = true := by simpa using hr
    rw [hr1]
    clear hr1
    by_cases h40 : (n0 : Int) ≤ 40
    · have e40 : decide ((n0 : Int) ≤ 40) = true := by simpa using h40
      rw [e40]
      generalize hq : wd.any (badL n) = q
      have HQ := Lib.hid hq
      clear hq
      go_enter Try.func30, Try.ntmps30
      go_wp2
      refine wp_region_grow (by kernel_rfl) (by kernel_rfl) ?_
      repeat (go_big_quiet_step ((first | (go_at_call 51; exact calls_grow (l00In_yes' hr _)) | (go_at_call 52; exact calls_grow ((l03Letters_any n _ wd hr.1 hr.2 _ (HS _).out).mono fun e w' ⟨h1, h2⟩ => ⟨by rw [h1, HQ.out], h2⟩)))))
      refine wpQuiet_nil ?_
      intro w1 hb1
      go_wp2
      go_ret
      exact ⟨ret_bool (by simp), hb1⟩
    · have e40 : decide ((n0 : Int) ≤ 40) = false := by simpa using h40
      rw [e40]
      go_enter Try.func30, Try.ntmps30
      go_wp2
      refine wp_region_grow (by kernel_rfl) (by kernel_rfl) ?_
      repeat (go_big_quiet_step ((go_at_call 51; exact calls_grow (l00In_yes' hr _))))
      refine wpQuiet_nil ?_
      intro w1 hb1
      go_wp2
      go_ret
      exact ⟨ret_bool (by simp), hb1⟩
  · have hr1 : (decide (0 ≤ n) && decide (n ≤ 12)) = false := by rw [Bool.eq_false_iff]; simpa using hr
    rw [hr1]
    go_enter Try.func30, Try.ntmps30
    go_wp2
    refine wp_region_grow (by kernel_rfl) (by kernel_rfl) ?_
    repeat (go_big_quiet_step ((go_at_call 51; exact calls_grow (l00In_no' hr _))))
    refine wpQuiet_nil ?_
    intro w1 hb1
    go_wp2
    go_ret
    exact ⟨ret_bool (by simp), hb1⟩

def braidL (b : Br) : List Ev := if okBr b = true then letsE b.w else []


end Go.Proofs.Ytfeonaocmnpkcaa

/-
  Arguments opened: a slice of int64, a slice of events, as what the walks are told of them.
-/
namespace Go.Proofs.Ytfeonaocmnpkcaa
set_option linter.unusedVariables false
set_option linter.unusedSimpArgs false
open Go.ChangeShapes Go.WideShapes Go.ChangeAt Go.RowKit Go.Deep
open Go.ChangeMaps (open_string shut_string)

section
variable {H : Type} {enc : TypeId × Value → H} {P : Program} {w : World} {base : Nat} {spare : Nat → Bool} {held : Bool}
theorem open_slice_fields {t e : TypeId} {fs : Array Field} {fuel : Nat} {cs : List Value} {x : DataW H × List MemPlace} (ht : P.underlying t = some (.slice e)) (he : P.underlying e = some (.struct fs))
    (hone : oneCellFields P fs = true) (hC : P.cellsOf e = fs.size) (h : DataW.trod enc P w base spare held fuel t cs = some x) :
    (cs = [.slice none 0 0] ∧ x = (.nil, [])) ∨
    ∃ (a : Addr) (len cap m : Nat) (D : Nat → DataW H) (Pl : Nat → List MemPlace), cs = [.slice (some a) len cap] ∧ base ≤ a.block ∧ len ≤ cap ∧ cap ≤ maxLen ∧ m = (if spare a.block then cap else len) ∧
      x = (.slice ((List.range len).map D) ((List.range (m - len)).map fun j => D (len + j)), MemPlace.row a (m * fs.size) ++ (List.range m).flatMap Pl) ∧
      ∀ i, i < m → ∃ (ys : List (DataW H × List MemPlace)) (n : Nat), D i = .agg (ys.map (·.1)) ∧ Pl i = ys.flatMap (·.2) ∧ ys.length = fs.size ∧
        ∀ (j : Nat) (f : Field), fs[j]? = some f → ∃ (v : Value) (y : DataW H × List MemPlace), w.cell? (a.add (i * fs.size + j)) = some v ∧ ys[j]? = some y ∧ DataW.trod enc P w base spare held n f.type [v] = some y := by
  rcases open_slice ht h with h0 | ⟨a, len, cap, m, n, D, Pl, hcs, hb, hl, hm, hmm, hx, hi⟩
  · exact .inl h0
  · refine .inr ⟨a, len, cap, m, D, Pl, hcs, hb, hl, hm, hmm, by rw [hC] at hx; exact hx, fun i him => ?_⟩
    obtain ⟨cs', hc, ht'⟩ := hi i him
    rw [hC] at hc
    obtain ⟨ys, n', hn', hy, hlen, hyl, hf⟩ := DataW.trod_struct he ht'
    obtain ⟨_, hcl, hat⟩ := World.cells?_some hc
    simp only [Prod.mk.injEq] at hy
    refine ⟨ys, n', hy.1, hy.2, hyl, fun j f hj => ?_⟩
    obtain ⟨ho, hk⟩ := hone_of hone j f hj
    have hjl : j < fs.size := (Array.getElem?_eq_some_iff.1 hj).1
    have hcell := hat j hjl
    have hv : cs'[j]? = some (cs'[j]'(by omega)) := List.getElem?_eq_getElem (by omega)
    have h1 := hf j f hj
    rw [ho, hk] at h1
    have hone' : (cs'.drop j).take 1 = [cs'[j]'(by omega)] := by
      rw [List.drop_eq_getElem_cons (by omega)]
      rfl
    rw [hone'] at h1
    have hys : ys[j]? = some (ys[j]'(by omega)) := List.getElem?_eq_getElem (by omega)
    refine ⟨_, _, ?_, hys, h1.trans hys⟩
    rw [← Go.Deep.add_add, hcell, hv]
end

/-- The numbers of a list fit an int64. -/
def Fit (x : Int) : Prop := -9223372036854775808 ≤ x ∧ x ≤ 9223372036854775807

theorem fit_of_wf {x : Int} (h : (Lit.int .i64 x).wf = true) : Fit x := by
  simp [Lit.wf, IntKind.min, IntKind.max, IntKind.signed, IntKind.bits] at h
  exact ⟨by omega, by omega⟩

theorem addr_of_cell {w : World} {a : Addr} {i : Nat} {v : Value} (h : w.cell? (a.add i) = some v) (h0 : ∃ u, w.cell? (a.add 0) = some u) : a = ⟨a.block, a.off, none⟩ ∧ a.block < w.heap.size ∧ w.cell? ⟨a.block, a.off + i, none⟩ = some v := by
  obtain ⟨b, off, spot⟩ := a
  obtain ⟨u, h0⟩ := h0
  have hs : spot = none := by simpa [Addr.add] using World.cell?_spot h0
  subst hs
  have e : (⟨b, off, none⟩ : Addr).add i = ⟨b, off + i, none⟩ := by unfold Addr.add; split <;> simp_all
  rw [e] at h
  have hb := block_lt_of_cell h
  exact ⟨rfl, hb, h⟩

section
variable {H : Type} {enc : TypeId × Value → H} {P : Program} {W : World} {base : Nat} {d : DataW H} {p : List MemPlace} {v : Value}

theorem open_rdI {t e : TypeId} (ht : P.underlying t = some (.slice e)) (he : P.underlying e = some (.int .i64)) (hc : P.cellsOf e = 1) (ho : Value.okWide P W .any base t v)
    (h : DataW.Trod enc P W 0 (fun _ => true) true t v d p) : ∃ l, RdI W W.heap.size v l ∧ ∀ x ∈ l, Fit x := by
  obtain ⟨A, n, c, rfl⟩ := okWide_slice ht ho
  obtain ⟨fuel, hf⟩ := h
  rcases open_ints ht he hc hf with ⟨hcs, _⟩ | ⟨a, l', c', zs, hcs, _, hl, hm, hz, _, hcell, hwz⟩
  · simp [Value.cells] at hcs
    obtain ⟨rfl, rfl, rfl⟩ := hcs
    exact ⟨[], ⟨none, 0, 0, rfl, by omega, rfl, fun k hk => absurd hk (by omega)⟩, by simp⟩
  · simp [Value.cells] at hcs
    obtain ⟨rfl, rfl, rfl⟩ := hcs
    simp only [if_true] at hz
    refine ⟨zs.take n, ⟨some a, n, c, rfl, by unfold maxLen at hm; omega, by unfold Hid; simp; omega, fun k hk => ?_⟩, fun x hx => fit_of_wf (hwz x (List.mem_of_mem_take hx))⟩
    obtain ⟨h1, h2, h3⟩ := addr_of_cell (hcell k (by omega)) ⟨_, hcell 0 (by omega)⟩
    refine ⟨a.block, a.off, zs.getD k 0, by rw [← h1], h2, ?_, h3⟩
    rw [List.getElem?_take, if_pos hk, List.getD_eq_getElem?_getD, List.getElem?_eq_getElem (by omega)]
    rfl

theorem open_int1 {t : TypeId} {w : World} {b : Nat} {sp : Nat → Bool} {hd : Bool} {n : Nat} {u : Value} {y : DataW H × List MemPlace} (ht : P.underlying t = some (.int .i64)) (h : DataW.trod enc P w b sp hd n t [u] = some y) : ∃ x, u = .int .i64 x ∧ Fit x := by
  obtain ⟨x, e0, _, wx⟩ := DataW.trod_int ht h
  simp at e0
  exact ⟨x, e0, fit_of_wf wx⟩

theorem build_list {α : Type} {n : Nat} {R : Nat → α → Prop} (h : ∀ k, k < n → ∃ x, R k x) : ∃ l : List α, l.length = n ∧ ∀ k, k < n → ∃ x, l[k]? = some x ∧ R k x := by
  have : ∀ q, q ≤ n → ∃ l : List α, l.length = q ∧ ∀ k, k < q → ∃ x, l[k]? = some x ∧ R k x := by
    intro q
    induction q with
    | zero => intro _; exact ⟨[], rfl, fun k hk => absurd hk (by omega)⟩
    | succ q ih =>
      intro hq
      obtain ⟨l, hlen, hall⟩ := ih (by omega)
      obtain ⟨e, he⟩ := h q (by omega)
      refine ⟨l ++ [e], by simp [hlen], fun k hk => ?_⟩
      by_cases hkq : k = q
      · subst hkq
        exact ⟨e, by simp [← hlen], he⟩
      · obtain ⟨e', h1, h2⟩ := hall k (by omega)
        exact ⟨e', by rw [List.getElem?_append_left (by omega)]; exact h1, h2⟩
  exact this n (Nat.le_refl _)

/-- A slice of structs of int64 fields. -/
theorem open_rdS {t e i : TypeId} {fs : Array Field} (ht : P.underlying t = some (.slice e)) (he : P.underlying e = some (.struct fs)) (hone : oneCellFields P fs = true) (hC : P.cellsOf e = fs.size) (hp : 0 < fs.size)
    (hi : fs.all (fun f => f.type == i) = true) (hu : P.underlying i = some (.int .i64)) (ho : Value.okWide P W .any base t v)
    (h : DataW.Trod enc P W 0 (fun _ => true) true t v d p) : ∃ l : List (List Int), RdS (fun xs => xs.map (Value.int .i64)) fs.size W W.heap.size v l ∧ ∀ xs ∈ l, xs.length = fs.size ∧ ∀ x ∈ xs, Fit x := by
  obtain ⟨A, n, c, rfl⟩ := okWide_slice ht ho
  obtain ⟨fuel, hf⟩ := h
  rcases open_slice_fields ht he hone hC hf with ⟨hcs, _⟩ | ⟨a, n', c', m, D, Pl, hcs, _, hl, hm, hmm, _, hel⟩
  · simp [Value.cells] at hcs
    obtain ⟨rfl, rfl, rfl⟩ := hcs
    exact ⟨[], ⟨none, 0, 0, rfl, by omega, rfl, fun k hk => absurd hk (by omega)⟩, by simp⟩
  · simp [Value.cells] at hcs
    obtain ⟨rfl, rfl, rfl⟩ := hcs
    simp only [if_true] at hmm
    subst hmm
    have hf1 : ∀ k j, k < m → j < fs.size → ∃ x, Fit x ∧ W.cell? (a.add (k * fs.size + j)) = some (.int .i64 x) := by
      intro k j hk hj
      obtain ⟨ys, q, _, _, _, hfs⟩ := hel k hk
      have hfj : fs[j]? = some fs[j] := Array.getElem?_eq_getElem hj
      obtain ⟨u, y, c0, _, t0⟩ := hfs j _ hfj
      have hty : fs[j].type = i := by
        rw [Array.all_eq_true] at hi
        simpa using hi j hj
      obtain ⟨x, rfl, wx⟩ := open_int1 (by rw [hty]; exact hu) t0
      exact ⟨x, wx, c0⟩
    have hE : ∀ k, k < m → ∃ xs : List Int, (xs.length = fs.size ∧ ∀ x ∈ xs, Fit x) ∧ a = ⟨a.block, a.off, none⟩ ∧ a.block < W.heap.size ∧ CellsAt W a.block (a.off + k * fs.size) (xs.map (Value.int .i64)) := by
      intro k hk
      have hz : ∃ u, W.cell? (a.add 0) = some u := by
        obtain ⟨x, _, h0⟩ := hf1 0 0 (by omega) hp
        exact ⟨_, by simpa using h0⟩
      obtain ⟨xs, hlen, hxs⟩ := build_list (fun j hj => hf1 k j hk hj)
      obtain ⟨x0, _, _, h0⟩ := hxs 0 hp
      obtain ⟨ha, hb, _⟩ := addr_of_cell h0 hz
      refine ⟨xs, ⟨hlen, fun x hx => ?_⟩, ha, hb, fun j u hu => ?_⟩
      · obtain ⟨j, hj, rfl⟩ := List.mem_iff_getElem.1 hx
        obtain ⟨x', h1, h2, _⟩ := hxs j (by omega)
        rw [List.getElem?_eq_getElem hj] at h1
        injection h1 with h1
        rw [h1]
        exact h2
      · rw [List.getElem?_map] at hu
        obtain ⟨x, hx, rfl⟩ := Option.map_eq_some_iff.1 hu
        obtain ⟨x', h1, _, h2⟩ := hxs j (by rw [← hlen]; exact (List.getElem?_eq_some_iff.1 hx).1)
        rw [hx] at h1
        injection h1 with h1
        subst h1
        rw [Nat.add_assoc]
        exact (addr_of_cell h2 hz).2.2
    obtain ⟨l, hlen, hall⟩ := build_list (n := n) (fun k hk => hE k (by omega))
    refine ⟨l, ⟨some a, _, _, rfl, by unfold maxLen at hm; omega, hlen, fun k hk => ?_⟩, fun x hx => ?_⟩
    · obtain ⟨e, h1, _, ha, hb, hc⟩ := hall k hk
      exact ⟨a.block, a.off, e, by rw [← ha], hb, h1, hc⟩
    · obtain ⟨k, hk, rfl⟩ := List.mem_iff_getElem.1 hx
      obtain ⟨e, h1, h2, _⟩ := hall k (by omega)
      rw [List.getElem?_eq_getElem hk] at h1
      injection h1 with h1
      rw [h1]
      exact h2
end

end Go.Proofs.Ytfeonaocmnpkcaa

/-
  Nested data: slices whose elements hold slices; arguments of such types opened.
-/
namespace Go.Proofs.Ytfeonaocmnpkcaa
set_option linter.unusedVariables false
set_option linter.unusedSimpArgs false
open Go.ChangeShapes Go.WideShapes Go.ChangeAt Go.RowKit Go.Deep
open Go.ChangeMaps (open_string shut_string)

/-- A slice of n elements of sz cells each; an element's cells us tell its datum by R. -/
def RdN {α : Type} (R : World → Nat → List Value → α → Prop) (sz : Nat) (w : World) (B : Nat) (v : Value) (l : List α) : Prop :=
  ∃ A n c, v = .slice A n c ∧ n ≤ 9223372036854775807 ∧ Hid (l.length = n) ∧ ∀ k, k < n → ∃ b off x us, A = some ⟨b, off, none⟩ ∧ b < B ∧ l[k]? = some x ∧ us.length = sz ∧ CellsAt w b (off + k * sz) us ∧ R w B us x

section
variable {α : Type} {R : World → Nat → List Value → α → Prop} {sz : Nat} {w w' : World} {B B' : Nat} {v : Value} {l : List α}
theorem RdN.below (hR : ∀ us x, R w B us x → R w' B us x) (h : RdN R sz w B v l) (hb : Below B w w') : RdN R sz w' B v l := by
  obtain ⟨A, n, c, rfl, hn, hl, h⟩ := h
  refine ⟨A, n, c, rfl, hn, hl, fun k hk => ?_⟩
  obtain ⟨b, off, x, us, h1, h2, h3, h4, h5, h6⟩ := h k hk
  exact ⟨b, off, x, us, h1, h2, h3, h4, h5.below hb h2, hR us x h6⟩
theorem RdN.more (hR : ∀ us x, R w B us x → R w B' us x) (h : RdN R sz w B v l) (hB : B ≤ B') : RdN R sz w B' v l := by
  obtain ⟨A, n, c, rfl, hn, hl, h⟩ := h
  refine ⟨A, n, c, rfl, hn, hl, fun k hk => ?_⟩
  obtain ⟨b, off, x, us, h1, h2, h3, h4, h5, h6⟩ := h k hk
  exact ⟨b, off, x, us, h1, by omega, h3, h4, h5, hR us x h6⟩
theorem RdN.shape (h : RdN R sz w B v l) : ∃ A c, v = .slice A l.length c := by
  obtain ⟨A, n, c, rfl, _, hl, _⟩ := h
  exact ⟨A, c, by rw [hl.out]⟩
end
theorem RdI.len {w : World} {B : Nat} {v : Value} {l : List Int} (h : RdI w B v l) : ∃ A c, v = .slice A l.length c := by
  obtain ⟨A, n, c, rfl, _, hl, _⟩ := h
  exact ⟨A, c, by rw [hl.out]⟩
theorem RdS.lens {α : Type} {cs : α → List Value} {sz : Nat} {w : World} {B : Nat} {v : Value} {l : List α} (h : RdS cs sz w B v l) : ∃ A c, v = .slice A l.length c := by
  obtain ⟨A, n, c, rfl, _, hl, _⟩ := h
  exact ⟨A, c, by rw [hl.out]⟩

section
variable {H : Type} {enc : TypeId × Value → H} {P : Program} {W : World} {base : Nat}

/-- What a value of one cell of type t is, wherever it is found. -/
def Opens (enc : TypeId × Value → H) (P : Program) (W : World) (t : TypeId) {α : Type} (R : Value → α → Prop) : Prop :=
  ∀ (n : Nat) (v : Value) (y : DataW H × List MemPlace), DataW.trod enc P W 0 (fun _ => true) true n t [v] = some y → ∃ x, R v x

theorem opens_int {t : TypeId} (ht : P.underlying t = some (.int .i64)) : Opens enc P W t (fun v x => v = .int .i64 x ∧ Fit x) := fun _ _ _ h => open_int1 ht h
theorem opens_bool {t : TypeId} (ht : P.underlying t = some .bool) : Opens enc P W t (fun v x => v = .bool x) := fun _ _ _ h => by
  obtain ⟨b, e, _⟩ := DataW.trod_bool ht h
  simp at e
  exact ⟨b, e⟩

theorem opens_ints {t e : TypeId} (ht : P.underlying t = some (.slice e)) (he : P.underlying e = some (.int .i64)) (hc : P.cellsOf e = 1) : Opens enc P W t (fun v l => RdI W W.heap.size v l ∧ ∀ x ∈ l, Fit x) := fun fuel v y hf => by
  rcases open_ints ht he hc hf with ⟨hcs, _⟩ | ⟨a, n, c, zs, hcs, _, hl, hm, hz, _, hcell, hwz⟩
  · simp at hcs
    subst hcs
    exact ⟨[], ⟨none, 0, 0, rfl, by omega, rfl, fun k hk => absurd hk (by omega)⟩, by simp⟩
  · simp at hcs
    subst hcs
    simp only [if_true] at hz
    refine ⟨zs.take n, ⟨some a, n, c, rfl, by unfold maxLen at hm; omega, by unfold Hid; simp; omega, fun k hk => ?_⟩, fun x hx => fit_of_wf (hwz x (List.mem_of_mem_take hx))⟩
    obtain ⟨h1, h2, h3⟩ := addr_of_cell (hcell k (by omega)) ⟨_, hcell 0 (by omega)⟩
    refine ⟨a.block, a.off, zs.getD k 0, by rw [← h1], h2, ?_, h3⟩
    rw [List.getElem?_take, if_pos hk, List.getD_eq_getElem?_getD, List.getElem?_eq_getElem (by omega)]
    rfl

/-- A slice whose elements' cells tell their datum. -/
theorem opens_rdN {α : Type} {R : World → Nat → List Value → α → Prop} {t e : TypeId} {sz : Nat} (ht : P.underlying t = some (.slice e)) (hC : P.cellsOf e = sz) (hp : 0 < sz)
    (hel : ∀ (us : List Value) (n : Nat) (y : DataW H × List MemPlace), us.length = sz → DataW.trod enc P W 0 (fun _ => true) true n e us = some y → ∃ x, R W W.heap.size us x) :
    Opens enc P W t (fun v l => RdN R sz W W.heap.size v l) := fun fuel v y hf => by
  rcases open_slice ht hf with ⟨hcs, _⟩ | ⟨a, n, c, m, q, D, Pl, hcs, _, hl, hm, hmm, _, hi⟩
  · simp at hcs
    subst hcs
    exact ⟨[], none, 0, 0, rfl, by omega, rfl, fun k hk => absurd hk (by omega)⟩
  · simp at hcs
    subst hcs
    simp only [if_true] at hmm
    subst hmm
    rw [hC] at hi
    have hE : ∀ k, k < n → ∃ x, ∃ us, a = ⟨a.block, a.off, none⟩ ∧ a.block < W.heap.size ∧ us.length = sz ∧ CellsAt W a.block (a.off + k * sz) us ∧ R W W.heap.size us x := by
      intro k hk
      obtain ⟨cs0, h0, _⟩ := hi 0 (by omega)
      obtain ⟨_, hl0, hat0⟩ := World.cells?_some h0
      have hz : ∃ u, W.cell? (a.add 0) = some u := by
        have := hat0 0 (by omega)
        rw [Go.Deep.add_add, Nat.zero_mul] at this
        exact ⟨_, this.trans (List.getElem?_eq_getElem (by omega))⟩
      obtain ⟨us, hk1, hk2⟩ := hi k (by omega)
      obtain ⟨_, hlen, hat⟩ := World.cells?_some hk1
      obtain ⟨x, hx⟩ := hel us q _ hlen hk2
      have hcell : ∀ j, j < sz → W.cell? (a.add (k * sz + j)) = us[j]? := fun j hj => by rw [← Go.Deep.add_add]; exact hat j hj
      have h00 := hcell 0 hp
      rw [List.getElem?_eq_getElem (by omega)] at h00
      obtain ⟨ha, hb, _⟩ := addr_of_cell h00 hz
      refine ⟨x, us, ha, hb, hlen, fun j u hu => ?_, hx⟩
      have hj : j < sz := by rw [← hlen]; exact (List.getElem?_eq_some_iff.1 hu).1
      have h1 := hcell j hj
      rw [hu] at h1
      rw [Nat.add_assoc]
      exact (addr_of_cell h1 hz).2.2
    obtain ⟨l, hlen, hall⟩ := build_list (n := n) hE
    refine ⟨l, some a, _, _, rfl, by unfold maxLen at hm; omega, hlen, fun k hk => ?_⟩
    obtain ⟨x, h1, us, ha, hb, hl5, hc5, hR5⟩ := hall k hk
    exact ⟨a.block, a.off, x, us, by rw [← ha], hb, h1, hl5, hc5, hR5⟩

/-- The fields of a struct of one-cell fields. -/
theorem opens_fields {e : TypeId} {fs : Array Field} (he : P.underlying e = some (.struct fs)) (hone : oneCellFields P fs = true) (hC : P.cellsOf e = fs.size) {us : List Value} {n : Nat} {y : DataW H × List MemPlace}
    (h : DataW.trod enc P W 0 (fun _ => true) true n e us = some y) : us.length = fs.size ∧ ∀ (j : Nat) (f : Field), fs[j]? = some f → ∃ v q z, us[j]? = some v ∧ DataW.trod enc P W 0 (fun _ => true) true q f.type [v] = some z := by
  obtain ⟨ys, n', hn', hy, hlen, hyl, hf⟩ := DataW.trod_struct he h
  rw [hC] at hlen
  refine ⟨hlen, fun j f hj => ?_⟩
  obtain ⟨ho, hk⟩ := hone_of hone j f hj
  have hjl : j < fs.size := (Array.getElem?_eq_some_iff.1 hj).1
  have h1 := hf j f hj
  rw [ho, hk] at h1
  have hone' : (us.drop j).take 1 = [us[j]'(by omega)] := by
    rw [List.drop_eq_getElem_cons (by omega)]
    rfl
  rw [hone'] at h1
  have hys : ys[j]? = some (ys[j]'(by omega)) := List.getElem?_eq_getElem (by omega)
  exact ⟨_, _, _, List.getElem?_eq_getElem (by omega), h1.trans hys⟩

/-- An argument that is a slice, out of what is known of its type. -/
theorem opens_arg {t e : TypeId} {α : Type} {R : Value → α → Prop} (ht : P.underlying t = some (.slice e)) (hO : Opens enc P W t R) {v : Value} {d : DataW H} {p : List MemPlace} (ho : Value.okWide P W .any base t v)
    (h : DataW.Trod enc P W 0 (fun _ => true) true t v d p) : ∃ x, R v x := by
  obtain ⟨A, n, c, rfl⟩ := okWide_slice ht ho
  obtain ⟨fuel, hf⟩ := h
  exact hO fuel _ _ hf
/-- An argument that is a struct of one-cell fields. -/
theorem opens_struct {t : TypeId} {fs : Array Field} (he : P.underlying t = some (.struct fs)) (hone : oneCellFields P fs = true) (hC : P.cellsOf t = fs.size) {v : Value} {d : DataW H} {p : List MemPlace}
    (ho : Value.okWide P W .any base t v) (h : DataW.Trod enc P W 0 (fun _ => true) true t v d p) :
    ∃ cs : Array Value, v = .agg cs ∧ cs.size = fs.size ∧ ∀ (j : Nat) (f : Field), fs[j]? = some f → ∃ u q z, cs[j]? = some u ∧ DataW.trod enc P W 0 (fun _ => true) true q f.type [u] = some z := by
  obtain ⟨cs, rfl, hs⟩ := okWide_struct he ho
  obtain ⟨fuel, hf⟩ := h
  have hf' : DataW.trod enc P W 0 (fun _ => true) true fuel t cs.toList = some (d, p) := hf
  obtain ⟨hl, hj⟩ := opens_fields he hone hC hf'
  refine ⟨cs, rfl, by rw [hs, hC], fun j f hjf => ?_⟩
  obtain ⟨u, q, z, h1, h2⟩ := hj j f hjf
  exact ⟨u, q, z, by rw [← h1]; simp, h2⟩
end

end Go.Proofs.Ytfeonaocmnpkcaa

/-
  A braid that is an argument.
-/
namespace Go.Proofs.Ytfeonaocmnpkcaa
set_option linter.unusedVariables false
set_option linter.unusedSimpArgs false
open Go.ChangeShapes Go.WideShapes Go.ChangeAt Go.RowKit Go.Deep

set_option maxRecDepth 100000 in
theorem open_braid {H : Type} {enc : TypeId × Value → H} {W : World} {base : Nat} {d : DataW H} {p : List MemPlace} {v : Value} (ho : Value.okWide Try.prog W .any base 24 v)
    (h : DataW.Trod enc Try.prog W 0 (fun _ => true) true 24 v d p) : ∃ b : Br, RdBr W W.heap.size v b ∧ Fit b.n := by
  obtain ⟨cs, rfl, hs, hf⟩ := opens_struct Try.underlying24 (by kernel_rfl) (by kernel_rfl) ho h
  obtain ⟨u0, q0, z0, g0, t0⟩ := hf 0 _ rfl
  obtain ⟨u1, q1, z1, g1, t1⟩ := hf 1 _ rfl
  obtain ⟨n, rfl, hn⟩ := opens_int (enc := enc) (W := W) (P := Try.prog) Try.underlying2 _ _ _ t0
  obtain ⟨l, hl, _⟩ := opens_ints (enc := enc) (W := W) (P := Try.prog) Try.underlying22 Try.underlying2 (by kernel_rfl) _ _ _ t1
  refine ⟨⟨n, l⟩, ⟨u1, ?_, hl⟩, hn⟩
  congr 1
  apply Array.ext'
  obtain ⟨cl⟩ := cs
  simp at hs g0 g1
  match cl, hs with
  | [a, b], _ =>
    simp at g0 g1
    rw [g0, g1]

theorem szOf_pos' {left z : Int} {n : Nat} (h : szOf left n = z) (hz : 0 ≤ z) : (n : Int) ≤ left ∧ z = left - n := by
  unfold szOf at h
  split at h <;> omega
theorem szBr_pos' {left z : Int} {b : Br} (h : szBr left b = z) (hz : 0 ≤ z) : (b.w.length : Int) ≤ left ∧ z = left - b.w.length := szOf_pos' h hz

/-- A braid by value whose marked word is the caller's own. -/
def OmBr (w : World) (lo hi : Nat) (v : Value) (b : Br) (K : Int) : Prop := ∃ s, v = .agg #[.int .i64 b.n, s] ∧ OwC w lo hi 2 1 s b.w.length (vM K (b.w.length * 1))
theorem OmBr.below {w w' : World} {lo hi : Nat} {v : Value} {b : Br} {K : Int} (h : ∃ s, v = .agg #[.int .i64 b.n, s] ∧ OwC w lo hi 2 1 s b.w.length (vM K (b.w.length * 1))) (hb : Below hi w w') :
    ∃ s, v = .agg #[.int .i64 b.n, s] ∧ OwC w' lo hi 2 1 s b.w.length (vM K (b.w.length * 1)) := by
  obtain ⟨s, hv, ho⟩ := h
  exact ⟨s, hv, ho.below hb⟩
theorem braidL_len {b : Br} (h : b.w.length ≤ 1048576) : (braidL b).length ≤ 1048576 := by
  unfold braidL letsE
  split <;> simp
  exact h

end Go.Proofs.Ytfeonaocmnpkcaa

/-
  Nested data: words for rows of rows that are a call's own; windows; sizes.
-/
namespace Go.Proofs.Ytfeonaocmnpkcaa
set_option linter.unusedVariables false
set_option linter.unusedSimpArgs false
open Go.RowKit

/-- No more elements than there is room for. -/
def CapOk (s : Value) : Prop := ∃ A n c, s = .slice A n c ∧ n ≤ c
theorem RdI.up' {w w' : World} {B : Nat} {v : Value} {l : List Int} (h : RdI w B v l) (hb : Below B w w') (hB : B ≤ w'.heap.size) : RdI w' w'.heap.size v l := (h.below hb).more hB

theorem RdN.le {α : Type} {R : World → Nat → List Value → α → Prop} {sz : Nat} {w : World} {B : Nat} {v : Value} {l : List α} (h : RdN R sz w B v l) : l.length ≤ 9223372036854775807 := by
  obtain ⟨A, n, c, rfl, hn, hl, _⟩ := h
  rw [hl.out]; exact hn
theorem RdI.shape' {w : World} {B : Nat} {v : Value} {l : List Int} (h : RdI w B v l) : ∃ A n c, v = .slice A n c := by
  obtain ⟨A, n, c, rfl, _⟩ := h
  exact ⟨A, n, c, rfl⟩
theorem CellsAt.seven {w : World} {b o : Nat} {u0 u1 u2 u3 u4 u5 u6 : Value} (h : CellsAt w b o [u0, u1, u2, u3, u4, u5, u6]) : w.cell? ⟨b, o, none⟩ = some u0 ∧ w.cell? ⟨b, o + 1, none⟩ = some u1 ∧ w.cell? ⟨b, o + 2, none⟩ = some u2 ∧
    w.cell? ⟨b, o + 3, none⟩ = some u3 ∧ w.cell? ⟨b, o + 4, none⟩ = some u4 ∧ w.cell? ⟨b, o + 5, none⟩ = some u5 ∧ w.cell? ⟨b, o + 6, none⟩ = some u6 :=
  ⟨h 0 _ rfl, h 1 _ rfl, h 2 _ rfl, h 3 _ rfl, h 4 _ rfl, h 5 _ rfl, h 6 _ rfl⟩

def szOfM (left : Int) (n : Nat) : Int := if (n : Int) ≤ left then left - n else -1
def szGo {α : Type} (f : α → Nat) : Int → List α → Int
  | z, [] => z
  | z, x :: xs => if (f x : Int) ≤ z then szGo f (z - f x) xs else -1
theorem szGo_pos {α : Type} (f : α → Nat) : ∀ (l : List α) (z : Int), 0 ≤ szGo f z l → szGo f z l ≤ z ∧ ∀ x ∈ l, (f x : Int) ≤ z
  | [], z, h => ⟨Int.le_refl _, by simp⟩
  | x :: xs, z, h => by
    rw [szGo] at h ⊢
    split at h
    · rename_i hx
      rw [if_pos hx]
      obtain ⟨h1, h2⟩ := szGo_pos f xs _ h
      refine ⟨by omega, fun y hy => ?_⟩
      rcases List.mem_cons.1 hy with rfl | hy
      · exact hx
      · have := h2 y hy; omega
    · omega
theorem szOfM_pos {left : Int} {n : Nat} (h : ¬ szOfM left n < 0) : szOfM left n ≤ left ∧ (n : Int) ≤ left := by
  unfold szOfM at h ⊢
  split at h
  · rename_i hl
    rw [if_pos hl]
    omega
  · omega
/-- A slice of the call's own, whose elements' own rows lie in windows apart from one another and from the slice's row. -/
def OwN {α : Type} (R : World → Nat → Nat → List Value → α → Prop) (E : TypeId) (sz : Nat) (w : World) (lo hi : Nat) (v : Value) (l : List α) : Prop :=
  ∃ (o0 o1 : Nat) (a b : Nat → Nat) (f : Nat → Value), lo ≤ o0 ∧ o1 ≤ hi ∧ (∀ k, k < l.length → lo ≤ a k ∧ b k ≤ hi ∧ (b k ≤ o0 ∨ o1 ≤ a k)) ∧ (∀ i j, i < l.length → j < l.length → i ≠ j → b i ≤ a j ∨ b j ≤ a i) ∧
    OwC w o0 o1 E sz v l.length ((List.range (l.length * sz)).map f) ∧ ∀ k x, l[k]? = some x → R w (a k) (b k) ((List.range sz).map fun j => f (k * sz + j)) x
theorem OwC.cap {w : World} {lo hi E sz n : Nat} {v : Value} {xs : List Value} (h : OwC w lo hi E sz v n xs) : CapOk v := by
  rcases h.2 with ⟨rfl, A, c, rfl⟩ | ⟨g, cap, cur, rfl, _, _, _, h1, _⟩
  · exact ⟨A, 0, c, rfl, Nat.zero_le _⟩
  · exact ⟨_, n, cap, rfl, h1⟩
theorem RdN.of_own {α : Type} {R : World → Nat → Nat → List Value → α → Prop} {R' : World → Nat → List Value → α → Prop} {E : TypeId} {sz : Nat} {w : World} {lo hi : Nat} {v : Value} {l : List α}
    (hR : ∀ lo hi us x, R w lo hi us x → R' w hi us x) (hm : ∀ B B' us x, B ≤ B' → R' w B us x → R' w B' us x) (hz : 0 < sz) (h : OwN R E sz w lo hi v l) : RdN R' sz w hi v l := by
  obtain ⟨o0, o1, a, b, f, h1, h2, h3, h4, h5, h6⟩ := h
  obtain ⟨A, c, rfl, hn, hc⟩ := h5.cells
  refine ⟨A, l.length, c, rfl, hn, rfl, fun k hk => ?_⟩
  obtain ⟨g, rfl, hg0, hg1, hfr, hcell⟩ := hc k hk
  have hx : l[k]? = some l[k] := List.getElem?_eq_getElem hk
  refine ⟨g, 0, l[k], (List.range sz).map fun j => f (k * sz + j), rfl, by omega, hx, by simp, fun j u hu => ?_, ?_⟩
  · have hj : j < sz := by
      have := (List.getElem?_eq_some_iff.1 hu).1
      simpa using this
    rw [List.getElem?_map, List.getElem?_range hj] at hu
    simp at hu
    have hlt : k * sz + j < l.length * sz := by
      have : (k + 1) * sz ≤ l.length * sz := Nat.mul_le_mul_right _ hk
      rw [Nat.add_mul] at this
      omega
    rw [Nat.zero_add]
    refine hcell (k * sz + j) u hlt ?_
    rw [List.getElem?_map, List.getElem?_range hlt]
    simp [hu]
  · exact hm _ _ _ _ (h3 k hk).2.1 (hR _ _ _ _ (h6 k _ hx))

theorem OwN.keep {α : Type} {R : World → Nat → Nat → List Value → α → Prop} {E : TypeId} {sz : Nat} {w w' : World} {lo hi : Nat} {v : Value} {l : List α}
    (hk : ∀ g, lo ≤ g → g < hi → w'.heap[g]? = w.heap[g]?) (hR : ∀ a b us x, lo ≤ a → b ≤ hi → R w a b us x → R w' a b us x) (h : OwN R E sz w lo hi v l) : OwN R E sz w' lo hi v l := by
  obtain ⟨o0, o1, a, b, f, h1, h2, h3, h4, h5, h6⟩ := h
  refine ⟨o0, o1, a, b, f, h1, h2, h3, h4, h5.keep fun g hg0 hg1 => hk g (by omega) (by omega), fun k x hx => ?_⟩
  have hkl : k < l.length := (List.getElem?_eq_some_iff.1 hx).1
  exact hR _ _ _ _ (h3 k hkl).1 (h3 k hkl).2.1 (h6 k x hx)
theorem OwN.wide {α : Type} {R : World → Nat → Nat → List Value → α → Prop} {E : TypeId} {sz : Nat} {w : World} {lo hi lo' hi' : Nat} {v : Value} {l : List α}
    (h : OwN R E sz w lo hi v l) (h1 : lo' ≤ lo) (h2 : hi ≤ hi') : OwN R E sz w lo' hi' v l := by
  obtain ⟨o0, o1, a, b, f, g1, g2, g3, g4, g5, g6⟩ := h
  exact ⟨o0, o1, a, b, f, by omega, by omega, fun k hk => by have := g3 k hk; omega, g4, g5, g6⟩
theorem OwN.shape {α : Type} {R : World → Nat → Nat → List Value → α → Prop} {E : TypeId} {sz : Nat} {w : World} {lo hi : Nat} {v : Value} {l : List α} (h : OwN R E sz w lo hi v l) : ∃ A c, v = .slice A l.length c := by
  obtain ⟨o0, o1, a, b, f, h1, h2, h3, h4, h5, h6⟩ := h
  obtain ⟨A, c, hv, _⟩ := h5.cells
  exact ⟨A, c, hv⟩

theorem CellsAt.set {w : World} {b o : Nat} {us : List Value} (h : CellsAt w b o us) (j : Nat) (u : Value) : CellsAt (w.setCell ⟨b, o + j, none⟩ u) b o (us.set j u) := by
  intro i x hi
  by_cases hij : j = i
  · subst hij
    have hl : j < us.length := by
      have := (List.getElem?_eq_some_iff.1 hi).1
      simpa using this
    rw [List.getElem?_set_self hl] at hi
    injection hi with hi
    subst hi
    exact World.cell?_setCell_same _ _ _ (h j _ (List.getElem?_eq_getElem hl))
  · rw [List.getElem?_set_ne hij] at hi
    rw [World.cell?_setCell_other _ _ _ _ (by intro e; injection e with _ e2 _; omega)]
    exact h i x hi
theorem CellsAt.far {w : World} {b o : Nat} {us : List Value} (h : CellsAt w b o us) {p : Addr} (hp : p.block ≠ b) (u : Value) : CellsAt (w.setCell p u) b o us := fun i x hi => by
  rw [World.cell?_setCell_other _ _ _ _ (by intro e; subst e; exact hp rfl)]
  exact h i x hi
theorem CellsAt.of_alloc {w : World} {us : List Value} {t : TypeId} : CellsAt (w.alloc (.cells us.toArray t)) w.heap.size 0 us := fun i x hi => by
  have := new_cells w t us i x hi
  have e : (⟨w.heap.size, 0, none⟩ : Addr).add i = ⟨w.heap.size, 0 + i, none⟩ := by unfold Addr.add; split <;> simp_all
  rw [← e]
  exact this
theorem CellsAt.alloc {w : World} {b o : Nat} {us : List Value} (h : CellsAt w b o us) (hb : b < w.heap.size) (x : Obj) : CellsAt (w.alloc x) b o us := fun i u hi => by
  rw [World.cell?_alloc_lt _ _ _ hb]
  exact h i u hi

theorem OwC.of_rowF {w : World} {lo hi g E n sz : Nat} {f : Nat → Value} (h : w.rowIs g E (n * sz) f) (h1 : lo ≤ g) (h2 : g < hi) (hn : n ≤ maxLen) : OwC w lo hi E sz (.slice (some ⟨g, 0, none⟩) n n) n ((List.range (n * sz)).map f) := by
  refine ⟨by simp, .inr ?_⟩
  obtain ⟨cur, g1, g2, g3⟩ := h
  refine ⟨g, n, cur, rfl, h1, h2, g1, Nat.le_refl _, hn, g2, ?_⟩
  rw [List.take_of_length_le (by simp; omega)]
  apply List.ext_getElem? ; intro j
  by_cases hj : j < n * sz
  · rw [Array.getElem?_toList, g3 j hj]
    simp [hj]
  · rw [List.getElem?_eq_none (by simp; omega), List.getElem?_eq_none (by simp; omega)]

def GivesN {α : Type} (R : World → Nat → Nat → List Value → α → Prop) (E : TypeId) (sz : Nat) (w : World) (l : List α) (e : Ending) (w' : World) : Prop := ∃ v, e = .returned v ∧ OwN R E sz w' w.heap.size w'.heap.size v l ∧ Below w.heap.size w w'

/-- The windows in which a loop laid its rows, one behind the other. -/
structure Wins (g k : Nat) (c : Nat → Nat) (top : Nat) : Prop where
  zero : c 0 = g + 1
  mono : ∀ i j, i ≤ j → j ≤ k → c i ≤ c j
  top : c k ≤ top
theorem Wins.next {g k : Nat} {c : Nat → Nat} {t t' : Nat} (h : Wins g k c t) (ht : t ≤ t') : Wins g (k + 1) (fun i => if i ≤ k then c i else t') t' := by
  refine ⟨by simp [h.zero], fun i j hij hj => ?_, by show (if k + 1 ≤ k then c (k + 1) else t') ≤ t'; rw [if_neg (by omega)]; exact Nat.le_refl _⟩
  have h2 := h.top
  by_cases hi : i ≤ k <;> by_cases hjk : j ≤ k
  · simp only [hi, hjk, if_true]; exact h.mono i j hij hjk
  · simp only [hi, hjk, if_true, if_false]; have := h.mono i k hi (Nat.le_refl _); omega
  · omega
  · simp only [hi, hjk, if_false]; exact Nat.le_refl _
theorem OwN.of_wins {α : Type} {R : World → Nat → Nat → List Value → α → Prop} {E : TypeId} {sz g : Nat} {w : World} {l : List α} {n : Nat} {c f : Nat → _} (hl : l.length = n) (hc : Wins g n c w.heap.size) (hr : w.rowIs g E (n * sz) f) (hn : n ≤ maxLen)
    (hR : ∀ k x, k < n → l[k]? = some x → R w (c k) (c (k + 1)) ((List.range sz).map fun j => f (k * sz + j)) x) : OwN R E sz w g w.heap.size (.slice (some ⟨g, 0, none⟩) n n) l := by
  subst hl
  have h0 := hc.zero
  have hm := hc.mono
  have ht := hc.top
  refine ⟨g, g + 1, c, fun k => c (k + 1), f, Nat.le_refl _, by have := hm 0 l.length (by omega) (Nat.le_refl _); omega, fun k hk => ?_, fun i j hi hj hij => ?_, OwC.of_rowF hr (Nat.le_refl _) (by omega) hn, fun k x hx => hR k x (List.getElem?_eq_some_iff.1 hx).1 hx⟩
  · have h1 := hm 0 k (by omega) (by omega)
    have h2 := hm (k + 1) l.length (by omega) (Nat.le_refl _)
    show g ≤ c k ∧ c (k + 1) ≤ w.heap.size ∧ (c (k + 1) ≤ g ∨ g + 1 ≤ c k)
    omega
  · show c (i + 1) ≤ c j ∨ c (j + 1) ≤ c i
    rcases Nat.lt_or_gt_of_ne hij with h | h
    · exact .inl (hm _ _ (by omega) (by omega))
    · exact .inr (hm _ _ (by omega) (by omega))

theorem szOfM_yes {left : Int} {n : Nat} (h : (n : Int) ≤ left) : szOfM left n = left - n := by simp [szOfM, h]
theorem szOfM_no {left : Int} {n : Nat} (h : ¬ (n : Int) ≤ left) : szOfM left n = -1 := by simp [szOfM, h]
theorem szGo_yes {α : Type} {f : α → Nat} {l : List α} {k : Nat} {x : α} {z R : Int} (h : R = szGo f z (l.drop k)) (hx : l[k]? = some x) (hf : (f x : Int) ≤ z) : R = szGo f (z - f x) (l.drop (k + 1)) := by rw [h, drop_of_get hx, szGo, if_pos hf]
theorem szGo_no {α : Type} {f : α → Nat} {l : List α} {k : Nat} {x : α} {z R : Int} (h : R = szGo f z (l.drop k)) (hx : l[k]? = some x) (hf : ¬ (f x : Int) ≤ z) : R = -1 := by rw [h, drop_of_get hx, szGo, if_neg hf]

theorem szOfM_lo {left : Int} {n : Nat} (h : 0 ≤ left) (h1 : left ≤ 1048576) : -1 ≤ szOfM left n ∧ szOfM left n ≤ 1048576 := by
  unfold szOfM; split <;> omega
theorem szGo_lo {α : Type} (f : α → Nat) : ∀ (l : List α) (z : Int), 0 ≤ z → z ≤ 1048576 → -1 ≤ szGo f z l ∧ szGo f z l ≤ 1048576
  | [], z, h, h1 => by rw [szGo]; omega
  | x :: xs, z, h, h1 => by
    rw [szGo]
    split
    · exact szGo_lo f xs _ (by omega) (by omega)
    · omega

theorem RdS.at_ {α : Type} {cs : α → List Value} {sz : Nat} {w : World} {B : Nat} {A : Option Addr} {n c : Nat} {l : List α} (h : RdS cs sz w B (.slice A n c) l) {k : Nat} (hk : k < n) :
    ∃ b off x, A = some ⟨b, off, none⟩ ∧ b < B ∧ l[k]? = some x ∧ CellsAt w b (off + k * sz) (cs x) := by
  obtain ⟨A', n', c', e, hn, hl, h⟩ := h
  injection e with e1 e2 e3
  subst e1 e2 e3
  exact h k hk

end Go.Proofs.Ytfeonaocmnpkcaa

/-
  A block: a braid and a list of stitches. Its size, its equality.
-/
namespace Go.Proofs.Ytfeonaocmnpkcaa
set_option linter.unusedVariables false
set_option linter.unusedSimpArgs false
open Go.RowKit

structure Bk where
  b : Br
  e : List Ev
deriving DecidableEq
/-- A block by its value: the cells of a struct within a struct lie flat. -/
def RdBkV (w : World) (B : Nat) (v : Value) (x : Bk) : Prop := ∃ s t, v = .agg #[.int .i64 x.b.n, s, t] ∧ RdI w B s x.b.w ∧ RdE w B t x.e
/-- A block by its three cells. -/
def RdBk (w : World) (B : Nat) (us : List Value) (x : Bk) : Prop := ∃ s t, us = [.int .i64 x.b.n, s, t] ∧ RdI w B s x.b.w ∧ RdE w B t x.e
theorem RdBk.val {w : World} {B : Nat} {u0 u1 u2 : Value} {x : Bk} (h : RdBk w B [u0, u1, u2] x) : RdBkV w B (.agg #[u0, u1, u2]) x := by
  obtain ⟨s, t, e, h1, h2⟩ := h
  injection e with e0 e
  injection e with e1 e
  injection e with e2 e
  subst e0 e1 e2
  exact ⟨_, _, rfl, h1, h2⟩
theorem RdBkV.below {w w' : World} {B : Nat} {v : Value} {x : Bk} (h : RdBkV w B v x) (hb : Below B w w') : RdBkV w' B v x := by
  obtain ⟨s, t, e, h1, h2⟩ := h
  exact ⟨s, t, e, h1.below hb, h2.below hb⟩
theorem RdBkV.more {w : World} {B B' : Nat} {v : Value} {x : Bk} (h : RdBkV w B v x) (hB : B ≤ B') : RdBkV w B' v x := by
  obtain ⟨s, t, e, h1, h2⟩ := h
  exact ⟨s, t, e, h1.more hB, h2.more hB⟩
theorem RdE.shape' {w : World} {B : Nat} {v : Value} {l : List Ev} (h : RdE w B v l) : ∃ A n c, v = .slice A n c := by
  obtain ⟨A, n, c, rfl, _⟩ := h
  exact ⟨A, n, c, rfl⟩
/-- What is left of a size behind a block, or -1. -/
def szBk (left : Int) (x : Bk) : Int := if szBr left x.b < 0 then -1 else szOf (szBr left x.b) x.e.length

set_option maxHeartbeats 1000000 in
set_option maxRecDepth 100000 in
theorem szBlock_any (v : Value) (x : Bk) (left : Int) (w : World) (hl : RdBkV w w.heap.size v x) (h0 : 0 ≤ left) (h1 : left ≤ 1048576) :
    Calls Try.prog 8 #[v, .int .i64 left] w fun e w' => e = .returned (.int .i64 (szBk left x)) ∧ Below w.heap.size w w' := by
  obtain ⟨s, t, rfl, hs, ht⟩ := hl
  obtain ⟨A0, n0, c0, rfl⟩ := hs.shape
  obtain ⟨A1, n1, c1, rfl⟩ := ht.shape'
  have HS := Lib.hid hs
  have HT := Lib.hid ht
  clear hs ht
  have HB0 := Lib.hid (show Below w.heap.size w (w.alloc (.cells #[.int .i64 x.b.n, .slice A0 n0 c0, .slice A1 n1 c1] 27)) from (Below.refl _ _).alloc (Nat.le_refl _) _)
  have hca : CellsAt (w.alloc (.cells #[.int .i64 x.b.n, .slice A0 n0 c0, .slice A1 n1 c1] 27)) w.heap.size 0 [.int .i64 x.b.n, .slice A0 n0 c0, .slice A1 n1 c1] := CellsAt.of_alloc
  have HCA := Lib.hid hca
  have HQ := Lib.hid (szBraid_any _ x.b left _ ⟨_, rfl, HS.out.up HB0.out HB0.out.size⟩ h0 h1)
  clear hca
  obtain ⟨z, hz⟩ : ∃ z, szBr left x.b = z := ⟨_, rfl⟩
  rw [hz] at HQ
  by_cases hp : z < 0
  · have HE := Lib.hid (show szBk left x = -1 by unfold szBk; rw [hz, if_pos hp])
    clear hz
    rw [HE.out]
    go_enter Try.func8, Try.ntmps8
    go_wp2_with fail
    refine HQ.out.mono ?_
    rintro e w1 ⟨rfl, hb⟩
    have HB := Lib.hid (HB0.out.trans (hb.mono HB0.out.size))
    clear hb
    go_wp2
    go_ret
    exact ⟨rfl, HB.out⟩
  · have HE := Lib.hid (show szBk left x = szOf z x.e.length by unfold szBk; rw [hz, if_neg hp])
    obtain ⟨-, hz1⟩ := szBr_pos' hz (by omega)
    have hz2 : z ≤ 1048576 := by omega
    have hz0 : 0 ≤ z := by omega
    clear hz hz1
    rw [HE.out]
    obtain ⟨y, hy⟩ : ∃ y, szOf z x.e.length = y := ⟨_, rfl⟩
    have HY := Lib.hid hy
    have hym : y < 0 → y = -1 := by intro h; rw [← hy] at h ⊢; unfold szOf at h ⊢; split at h <;> (try split) <;> omega
    rw [hy]
    clear hy
    go_enter Try.func8, Try.ntmps8
    go_wp2_with fail
    refine HQ.out.mono ?_
    rintro e w1 ⟨rfl, hb⟩
    obtain ⟨y0, y1, y2⟩ := (HCA.out.below hb (by simp)).three
    have HB := Lib.hid (HB0.out.trans (hb.mono HB0.out.size))
    clear hb
    go_wp2_with fail
    refine (szEventS_any _ x.e _ _ _ ((HT.out.below HB.out).more HB.out.size) hz0 hz2).mono ?_
    rintro e w2 ⟨rfl, rfl⟩
    rw [HY.out]
    by_cases hy0 : y < 0
    · have hy1 := hym hy0
      subst hy1
      go_wp2
      go_ret
      exact ⟨rfl, HB.out⟩
    · go_wp2
      go_ret
      exact ⟨rfl, HB.out⟩

set_option maxHeartbeats 1000000 in
set_option maxRecDepth 100000 in
theorem eqBlock_any (v u : Value) (a b : Bk) (w : World) (hl : RdBkV w w.heap.size v a) (hm : RdBkV w w.heap.size u b) :
    Calls Try.prog 12 #[v, u] w fun e w' => e = .returned (.bool (decide (a = b))) ∧ Below w.heap.size w w' := by
  obtain ⟨s, t, rfl, hs, ht⟩ := hl
  obtain ⟨p, q, rfl, hp, hq⟩ := hm
  obtain ⟨A0, n0, c0, rfl⟩ := hs.shape
  obtain ⟨A1, n1, c1, rfl⟩ := ht.shape'
  obtain ⟨A2, n2, c2, rfl⟩ := hp.shape
  obtain ⟨A3, n3, c3, rfl⟩ := hq.shape'
  obtain ⟨ab, ae⟩ := a
  obtain ⟨bb, be⟩ := b
  have HS := Lib.hid hs
  have HT := Lib.hid ht
  have HP := Lib.hid hp
  have HQ := Lib.hid hq
  clear hs ht hp hq
  dsimp only at HS HT HP HQ
  have HB0 := Lib.hid (show Below w.heap.size w ((w.alloc (.cells #[.int .i64 ab.n, .slice A0 n0 c0, .slice A1 n1 c1] 33)).alloc (.cells #[.int .i64 bb.n, .slice A2 n2 c2, .slice A3 n3 c3] 33)) from ((Below.refl _ _).alloc (Nat.le_refl _) _).alloc (by simp) _)
  have hca : CellsAt ((w.alloc (.cells #[.int .i64 ab.n, .slice A0 n0 c0, .slice A1 n1 c1] 33)).alloc (.cells #[.int .i64 bb.n, .slice A2 n2 c2, .slice A3 n3 c3] 33)) w.heap.size 0 [.int .i64 ab.n, .slice A0 n0 c0, .slice A1 n1 c1] := by
    intro j u hu; rcases j with _ | _ | _ | j <;> simp at hu <;> subst hu <;> simp [go_sem]
  have hcb : CellsAt ((w.alloc (.cells #[.int .i64 ab.n, .slice A0 n0 c0, .slice A1 n1 c1] 33)).alloc (.cells #[.int .i64 bb.n, .slice A2 n2 c2, .slice A3 n3 c3] 33)) (w.heap.size + 1) 0 [.int .i64 bb.n, .slice A2 n2 c2, .slice A3 n3 c3] := by
    intro j u hu; rcases j with _ | _ | _ | j <;> simp at hu <;> subst hu <;> simp [go_sem]
  have HCA := Lib.hid hca
  have HCB := Lib.hid hcb
  clear hca hcb
  have HK := Lib.hid (eqBraid_any _ _ ab bb _ ⟨_, rfl, HS.out.up HB0.out HB0.out.size⟩ ⟨_, rfl, HP.out.up HB0.out HB0.out.size⟩)
  by_cases h : ab = bb
  · have hd : decide ((⟨ab, ae⟩ : Bk) = ⟨bb, be⟩) = decide (ae = be) := by simp [h]
    rw [hd]
    rw [show decide (ab = bb) = true by simp [h]] at HK
    clear hd
    subst h
    cases hz : decide (ae = be)
    all_goals
      have HZ := Lib.hid hz
      clear hz
      go_enter Try.func12, Try.ntmps12
      go_wp2_with fail
      refine HK.out.mono ?_
      rintro e w1 ⟨rfl, hb⟩
      obtain ⟨y0, y1, y2⟩ := (HCA.out.below hb (by simp; try omega)).three
      obtain ⟨x0, x1, x2⟩ := (HCB.out.below hb (by simp; try omega)).three
      have HB := Lib.hid (HB0.out.trans (hb.mono HB0.out.size))
      clear hb
      go_wp2_with fail
      refine (eqEventS_any _ _ ae be _ _ ((HT.out.below HB.out).more HB.out.size) ((HQ.out.below HB.out).more HB.out.size) (Nat.le_refl _)).mono ?_
      rintro e w2 ⟨rfl, hb⟩
      rw [HZ.out]
      have HB2 := Lib.hid (HB.out.trans (hb.mono HB.out.size))
      clear hb
      go_wp2
      go_ret
      exact ⟨rfl, HB2.out⟩
  · have hd : decide ((⟨ab, ae⟩ : Bk) = ⟨bb, be⟩) = false := by simp [h]
    rw [hd]
    rw [show decide (ab = bb) = false by simp [h]] at HK
    clear h hd
    go_enter Try.func12, Try.ntmps12
    go_wp2_with fail
    refine HK.out.mono ?_
    rintro e w1 ⟨rfl, hb⟩
    have HB := Lib.hid (HB0.out.trans (hb.mono HB0.out.size))
    clear hb
    go_wp2
    go_ret
    exact ⟨rfl, HB.out⟩

/-- A block of the call's own, by its value: the word's row lies below 'm', the stitches' row above. -/
def OwBkV (w : World) (lo hi : Nat) (v : Value) (x : Bk) : Prop := ∃ s t m, v = .agg #[.int .i64 x.b.n, s, t] ∧ lo ≤ m ∧ m ≤ hi ∧ OwC w lo m 2 1 s x.b.w.length (vI x.b.w) ∧ OwC w m hi 61 6 t x.e.length (vE x.e)

set_option maxHeartbeats 2000000 in
set_option maxRecDepth 100000 in
theorem toBlock_any (v : Value) (x : Bk) (w : World) (hl : RdBkV w w.heap.size v x) (hw : x.b.w.length ≤ 1048576) (he : x.e.length ≤ 1048576) :
    Calls Try.prog 10 #[v] w fun e w' => ∃ v', e = .returned v' ∧ OwBkV w' w.heap.size w'.heap.size v' x ∧ Below w.heap.size w w' := by
  obtain ⟨s, t, rfl, hs, ht⟩ := hl
  obtain ⟨A0, n0, c0, rfl⟩ := hs.shape
  obtain ⟨A1, n1, c1, rfl⟩ := ht.shape'
  have HS := Lib.hid hs
  have HT := Lib.hid ht
  clear hs ht
  obtain ⟨W0, hW0⟩ : ∃ W0, ((w.alloc (.cells #[.int .i64 x.b.n, .slice A0 n0 c0, .slice A1 n1 c1] 27)).alloc (.cells #[.int .i64 0, .slice none 0 0, .slice none 0 0] 33)).alloc (.cells #[.int .i64 0, .slice none 0 0, .slice none 0 0] 33) = W0 := ⟨_, rfl⟩
  have HB0 := Lib.hid (show Below w.heap.size w W0 by rw [← hW0]; exact ((Below.refl _ _).alloc (Nat.le_refl _) _).alloc (by simp) _ |>.alloc (by simp; omega) _)
  have HSZ := Lib.hid (show W0.heap.size = w.heap.size + 3 by rw [← hW0]; simp)
  have hcx : CellsAt W0 w.heap.size 0 [.int .i64 x.b.n, .slice A0 n0 c0, .slice A1 n1 c1] := by
    intro j u hu; rw [← hW0]; rcases j with _ | _ | _ | j <;> simp at hu <;> subst hu <;> simp [go_sem]
  have hcr : CellsAt W0 (w.heap.size + 1) 0 [.int .i64 0, .slice none 0 0, .slice none 0 0] := by
    intro j u hu; rw [← hW0]; rcases j with _ | _ | _ | j <;> simp at hu <;> subst hu <;> simp [go_sem]
  have hcb : CellsAt W0 (w.heap.size + 2) 0 [.int .i64 0, .slice none 0 0, .slice none 0 0] := by
    intro j u hu; rw [← hW0]; rcases j with _ | _ | _ | j <;> simp at hu <;> subst hu <;> simp [go_sem]
  have hfr : ∀ b o, w.heap.size ≤ b → b < w.heap.size + 3 → W0.frozen? ⟨b, o, none⟩ = false := by
    intro b o h1 h2
    rw [← hW0]
    obtain rfl | rfl | rfl : b = w.heap.size ∨ b = w.heap.size + 1 ∨ b = w.heap.size + 2 := by omega
    all_goals simp [go_sem]
  have HCX := Lib.hid hcx
  have HCR := Lib.hid hcr
  have HCB := Lib.hid hcb
  have HFR := Lib.hid hfr
  have HQ := Lib.hid (toBraid_any _ x.b W0 ⟨_, rfl, HS.out.up HB0.out HB0.out.size⟩ hw)
  obtain ⟨k0, k1, k2⟩ := hcx.three
  clear hcx hcr hcb hfr
  go_enter Try.func10, Try.ntmps10
  go_wp2_with fail
  refine HQ.out.mono ?_
  rintro e w1 ⟨v1, rfl, ⟨s1, rfl, ho⟩, hb⟩
  obtain ⟨A2, c2, rfl, -⟩ := ho.cells
  have hz1 : w.heap.size + 3 ≤ w1.heap.size := by have := hb.size; rw [HSZ.out] at this; exact this
  have HX1 := Lib.hid (HCX.out.below hb (by rw [HSZ.out]; omega))
  have HR1 := Lib.hid (HCR.out.below hb (by rw [HSZ.out]; omega))
  have HY1 := Lib.hid (HCB.out.below hb (by rw [HSZ.out]; omega))
  have HF1 := Lib.hid (show ∀ b o, w.heap.size ≤ b → b < w.heap.size + 3 → w1.frozen? ⟨b, o, none⟩ = false from fun b o h1 h2 => ((bcell hb).2 b o (by rw [HSZ.out]; omega)).trans (HFR.out b o h1 h2))
  have HB1 := Lib.hid (HB0.out.trans (hb.mono HB0.out.size))
  have HO1 := Lib.hid ho
  obtain ⟨x0, x1, x2⟩ := HX1.out.three
  obtain ⟨y0, y1, y2⟩ := HY1.out.three
  have f20 := fun o => HF1.out (w.heap.size + 2) o (by omega) (by omega)
  clear hb ho
  go_wp2_with fail
  refine (toEventS_any _ x.e _ (((HT.out.below HB1.out).below (((Below.refl w.heap.size w1).setCell (by simp; try omega) _).setCell (by simp; try omega) _)).more (by simp; omega)) he).mono ?_
  rintro e w2 ⟨v2, rfl, ho, hb⟩
  obtain ⟨A3, c3, rfl, -⟩ := ho.cells
  have hz2 : w1.heap.size ≤ w2.heap.size := by have := hb.size; simpa using this
  have hy : CellsAt _ (w.heap.size + 1 + 1) 0 [.int .i64 x.b.n, .slice A2 x.b.w.length c2, .slice none 0 0] := ((HY1.out.set 0 (.int .i64 x.b.n)).set 1 (.slice A2 x.b.w.length c2))
  have hr : CellsAt _ (w.heap.size + 1) 0 [.int .i64 0, .slice none 0 0, .slice none 0 0] := ((HR1.out.far (p := ⟨w.heap.size + 1 + 1, 0, none⟩) (by simp) (.int .i64 x.b.n)).far (p := ⟨w.heap.size + 1 + 1, 1, none⟩) (by simp) (.slice A2 x.b.w.length c2))
  obtain ⟨p0, p1, p2⟩ := (hy.below hb (by simp; omega)).three
  obtain ⟨q0, q1, q2⟩ := (hr.below hb (by simp; omega)).three
  have g2 : ∀ o, w2.frozen? ⟨w.heap.size + 1 + 1, o, none⟩ = false := fun o => ((bcell hb).2 _ o (by simp; omega)).trans (by simp [go_sem]; exact HF1.out (w.heap.size + 1 + 1) o (by omega) (by omega))
  have g1 : ∀ o, w2.frozen? ⟨w.heap.size + 1, o, none⟩ = false := fun o => ((bcell hb).2 _ o (by simp; omega)).trans (by simp [go_sem]; exact HF1.out (w.heap.size + 1) o (by omega) (by omega))
  have HO2 := Lib.hid ho
  have HB2 := Lib.hid (show Below w.heap.size w w2 from (HB1.out.trans (((Below.refl w.heap.size w1).setCell (by simp; try omega) _).setCell (by simp; try omega) _)).trans (hb.mono (by simp; omega)))
  have HA2 := Lib.hid (show OwC w2 W0.heap.size w1.heap.size 2 1 (.slice A2 x.b.w.length c2) x.b.w.length (vI x.b.w) from (HO1.out.only (((Only.refl w.heap.size (w.heap.size + 3) w1).setCell (p := ⟨w.heap.size + 1 + 1, 0, none⟩) (by simp; try omega) (by simp; try omega) (.int .i64 x.b.n)).setCell (p := ⟨w.heap.size + 1 + 1, 1, none⟩) (by simp; try omega) (by simp; try omega) (.slice A2 x.b.w.length c2)) (.inr (by rw [HSZ.out]; omega)) (Nat.le_refl _)).below (hb.mono (by simp)))
  clear hb ho hy hr x0 x1 x2 y0 y1 y2 f20 k0 k1 k2
  go_wp2
  refine bodyPost_ret (v := .agg #[.int .i64 x.b.n, .slice A2 x.b.w.length c2, .slice A3 x.e.length c3]) (by simp [results, Try.results10, go_sem, q0, q1, q2, p0, p1, p2, World.cell?_setCell_other]) rfl ⟨_, rfl, ⟨_, _, w1.heap.size, rfl, by omega, by simp; omega, ?_, ?_⟩, ?_⟩
  · exact (HA2.out.only (((((Only.refl w.heap.size (w.heap.size + 3) w2).setCell (by simp; try omega) (by simp; try omega) _).setCell (by simp; try omega) (by simp; try omega) _).setCell (by simp; try omega) (by simp; try omega) _).setCell (by simp; try omega) (by simp; try omega) _) (.inr (by rw [HSZ.out]; omega)) (by omega)).wide (by rw [HSZ.out]; omega) (Nat.le_refl _)
  · exact (HO2.out.only (((((Only.refl w.heap.size (w.heap.size + 3) w2).setCell (by simp; try omega) (by simp; try omega) _).setCell (by simp; try omega) (by simp; try omega) _).setCell (by simp; try omega) (by simp; try omega) _).setCell (by simp; try omega) (by simp; try omega) _) (.inr (by simp; omega)) (Nat.le_refl _)).wide (by simp) (by simp)
  · exact (((HB2.out.setCell (by simp; try omega) _).setCell (by simp; try omega) _).setCell (by simp; try omega) _).setCell (by simp; try omega) _

end Go.Proofs.Ytfeonaocmnpkcaa

/-
  Words compared: slices.Equal at int64, spec.l00Same.
-/
namespace Go.Proofs.Ytfeonaocmnpkcaa
set_option linter.unusedVariables false
set_option linter.unusedSimpArgs false
open Go.RowKit

/- as equalS, at slices of int64 -/
set_option maxHeartbeats 1000000 in
set_option maxRecDepth 100000 in
theorem eqlInts_any (v u : Value) (l m : List Int) (w : World) (B : Nat) (hl : RdI w B v l) (hm : RdI w B u m) (hB : B ≤ w.heap.size) :
    Calls Try.prog 89 #[v, u] w fun x w' => x = .returned (.bool (decide (l = m))) ∧ Below w.heap.size w w' := by
  obtain ⟨A, n, c, rfl, hln, hl, gl⟩ := hl
  obtain ⟨A', n', c', rfl, hmn, hm, gm⟩ := hm
  by_cases hlen : n = n'
  · subst hlen
    go_enter Try.func89, Try.ntmps89
    go_wp2
    go_loopw [5, 13] (fun _ i wr => ∃ k : Nat, k ≤ n ∧ i = .int .i64 k ∧ Hid (decide (l = m) = decide (l.drop k = m.drop k)) ∧ Below w.heap.size w wr) (fun _ i _ => n - (intOf i).toNat)
    case atStart => exact ⟨0, Nat.zero_le _, rfl, rfl, Below.refl _ _⟩
    case round =>
      rename_i wr
      obtain ⟨k, hk, rfl, hd, hb⟩ := hrel
      by_cases hlt : k < n
      · obtain ⟨b, off, x, rfl, hbb, hlk, hc⟩ := gl k hlt
        obtain ⟨b', off', y, rfl, hbb', hmk, hc'⟩ := gm k hlt
        have e0 := fun X => wgrow_cell (x := X) ((hb.cell (p := ⟨b, off + k, none⟩) (Nat.lt_of_lt_of_le hbb hB)).trans hc)
        have e1 := fun X => wgrow_cell (x := X) ((hb.cell (p := ⟨b', off' + k, none⟩) (Nat.lt_of_lt_of_le hbb' hB)).trans hc')
        have HB := Lib.hid hb
        have Hl := Lib.hid hlk
        have Hm := Lib.hid hmk
        clear hc hc' hlk hmk hb gl gm
        go_wp2
        refine wp_region_grow (by kernel_rfl) (by kernel_rfl) ?_
        repeat (go_big_quiet_step (fail))
        refine wpQuiet_nil ?_
        intro w1 hb1
        have HB1 := HB.out.trans (hb1.mono HB.out.size)
        go_wp2
        · go_ret
          exact ⟨ret_bool (by rw [hd.out, drop_of_get Hl.out, drop_of_get Hm.out]; simp_all), HB1⟩
        · exact ⟨⟨k + 1, by omega, by go_num, by unfold Hid; rw [hd.out, drop_of_get Hl.out, drop_of_get Hm.out]; simp_all, HB1⟩, by simp [intOf]; omega⟩
      · go_wp2
        go_ret
        exact ⟨ret_bool (by rw [hd.out, List.drop_of_length_le (by have := hl.out; omega), List.drop_of_length_le (by have := hm.out; omega)]; simp), hb⟩
  · have hd1 : ((n : Int) != (n' : Int)) = true := by simp; omega
    go_enter Try.func89, Try.ntmps89
    go_wp2
    go_ret
    exact ⟨ret_bool (by symm; simp; rintro rfl; exact hlen (hl.out.symm.trans hm.out)), Below.refl _ _⟩
/- as equalS, at slices of int64 -/
set_option maxHeartbeats 1000000 in
set_option maxRecDepth 100000 in
theorem specSame_any (v u : Value) (l m : List Int) (w : World) (B : Nat) (hl : RdI w B v l) (hm : RdI w B u m) (hB : B ≤ w.heap.size) :
    Calls Try.prog 113 #[v, u] w fun x w' => x = .returned (.bool (decide (l = m))) ∧ Below w.heap.size w w' := by
  obtain ⟨A, n, c, rfl, hln, hl, gl⟩ := hl
  obtain ⟨A', n', c', rfl, hmn, hm, gm⟩ := hm
  by_cases hlen : n = n'
  · subst hlen
    go_enter Try.func113, Try.ntmps113
    go_wp2
    go_loopw [5] (fun  i wr => ∃ k : Nat, k ≤ n ∧ i = .int .i64 k ∧ Hid (decide (l = m) = decide (l.drop k = m.drop k)) ∧ Below w.heap.size w wr) (fun  i _ => n - (intOf i).toNat)
    case atStart => exact ⟨0, Nat.zero_le _, rfl, rfl, Below.refl _ _⟩
    case round =>
      rename_i wr
      obtain ⟨k, hk, rfl, hd, hb⟩ := hrel
      by_cases hlt : k < n
      · obtain ⟨b, off, x, rfl, hbb, hlk, hc⟩ := gl k hlt
        obtain ⟨b', off', y, rfl, hbb', hmk, hc'⟩ := gm k hlt
        have e0 := fun X => wgrow_cell (x := X) ((hb.cell (p := ⟨b, off + k, none⟩) (Nat.lt_of_lt_of_le hbb hB)).trans hc)
        have e1 := fun X => wgrow_cell (x := X) ((hb.cell (p := ⟨b', off' + k, none⟩) (Nat.lt_of_lt_of_le hbb' hB)).trans hc')
        have HB := Lib.hid hb
        have Hl := Lib.hid hlk
        have Hm := Lib.hid hmk
        clear hc hc' hlk hmk hb gl gm
        go_wp2
        refine wp_region_grow (by kernel_rfl) (by kernel_rfl) ?_
        repeat (go_big_quiet_step (fail))
        refine wpQuiet_nil ?_
        intro w1 hb1
        have HB1 := HB.out.trans (hb1.mono HB.out.size)
        go_wp2
        · go_ret
          exact ⟨ret_bool (by rw [hd.out, drop_of_get Hl.out, drop_of_get Hm.out]; simp_all), HB1⟩
        · exact ⟨⟨k + 1, by omega, by go_num, by unfold Hid; rw [hd.out, drop_of_get Hl.out, drop_of_get Hm.out]; simp_all, HB1⟩, by simp [intOf]; omega⟩
      · go_wp2
        go_ret
        exact ⟨ret_bool (by rw [hd.out, List.drop_of_length_le (by have := hl.out; omega), List.drop_of_length_le (by have := hm.out; omega)]; simp), hb⟩
  · have hd1 : ((n : Int) != (n' : Int)) = true := by simp; omega
    go_enter Try.func113, Try.ntmps113
    go_wp2
    go_ret
    exact ⟨ret_bool (by symm; simp; rintro rfl; exact hlen (hl.out.symm.trans hm.out)), Below.refl _ _⟩



def RdBks (w : World) (B : Nat) (v : Value) (l : List Bk) : Prop := RdN RdBk 3 w B v l


end Go.Proofs.Ytfeonaocmnpkcaa

/-
  An argument that is a slice of the laws' events, as what the walks are told of it.
-/
namespace Go.Proofs.Ytfeonaocmnpkcaa
set_option linter.unusedVariables false
set_option linter.unusedSimpArgs false
open Go.ChangeShapes Go.WideShapes Go.ChangeAt Go.RowKit Go.Deep

def FitE (e : Ev) : Prop := Fit e.k ∧ Fit e.p ∧ Fit e.c ∧ Fit e.b ∧ Fit e.y ∧ Fit e.d

def evOf : List Int → Ev
  | [a, b, c, d, e, f] => ⟨a, b, c, d, e, f⟩
  | _ => ⟨0, 0, 0, 0, 0, 0⟩

set_option maxRecDepth 100000 in
theorem open_evs {H : Type} {enc : TypeId × Value → H} {W : World} {base : Nat} {d : DataW H} {p : List MemPlace} {v : Value} (ho : Value.okWide Try.prog W .any base 25 v)
    (h : DataW.Trod enc Try.prog W 0 (fun _ => true) true 25 v d p) : ∃ l, RdE W W.heap.size v l ∧ ∀ e ∈ l, FitE e := by
  obtain ⟨l, hr, hx⟩ := open_rdS (i := 2) Try.underlying25 Try.underlying65 (by kernel_rfl) (by kernel_rfl) (by decide) (by kernel_rfl) Try.underlying2 ho h
  refine ⟨l.map evOf, hr.map evOf (fun xs hxs => ?_), fun e he => ?_⟩
  · obtain ⟨h6, _⟩ := hx xs hxs
    match xs, h6 with
    | [a, b, c, d, e, f], _ => rfl
  · obtain ⟨xs, hxs, rfl⟩ := List.mem_map.1 he
    obtain ⟨h6, hf⟩ := hx xs hxs
    match xs, h6, hf with
    | [a, b, c, d, e, f], _, hf => exact ⟨hf a (by simp), hf b (by simp), hf c (by simp), hf d (by simp), hf e (by simp), hf f (by simp)⟩

end Go.Proofs.Ytfeonaocmnpkcaa

/-
  Rows of blocks: how they are read, opened, copied, weighed, compared.
-/
namespace Go.Proofs.Ytfeonaocmnpkcaa
set_option linter.unusedVariables false
set_option linter.unusedSimpArgs false
open Go.ChangeShapes Go.WideShapes Go.ChangeAt Go.RowKit Go.Deep

theorem RdBk.below {w w' : World} {B : Nat} (hb : Below B w w') (us : List Value) (x : Bk) (h : RdBk w B us x) : RdBk w' B us x := by
  obtain ⟨s, t, e, h1, h2⟩ := h
  exact ⟨s, t, e, h1.below hb, h2.below hb⟩
theorem RdBk.more {w : World} {B B' : Nat} (hB : B ≤ B') (us : List Value) (x : Bk) (h : RdBk w B us x) : RdBk w B' us x := by
  obtain ⟨s, t, e, h1, h2⟩ := h
  exact ⟨s, t, e, h1.more hB, h2.more hB⟩
theorem RdBks.below {w w' : World} {B : Nat} {v : Value} {l : List Bk} (h : RdBks w B v l) (hb : Below B w w') : RdBks w' B v l := RdN.below (RdBk.below hb) h hb
theorem RdBks.more {w : World} {B B' : Nat} {v : Value} {l : List Bk} (h : RdBks w B v l) (hB : B ≤ B') : RdBks w B' v l := RdN.more (RdBk.more hB) h hB
/-- One block of a row. -/
theorem RdBks.at_ {w : World} {B : Nat} {A : Option Addr} {n c : Nat} {l : List Bk} (h : RdBks w B (.slice A n c) l) {k : Nat} (hk : k < n) :
    ∃ b off x A0 n0 c0 A1 n1 c1, A = some ⟨b, off, none⟩ ∧ b < B ∧ l[k]? = some x ∧ CellsAt w b (off + k * 3) [.int .i64 x.b.n, .slice A0 n0 c0, .slice A1 n1 c1] ∧ RdI w B (.slice A0 n0 c0) x.b.w ∧ RdE w B (.slice A1 n1 c1) x.e := by
  obtain ⟨A', n', c', e, hn, hl, h⟩ := h
  injection e with e1 e2 e3
  subst e1 e2 e3
  obtain ⟨b, off, x, us, h1, h2, h3, h4, h5, s, t, rfl, h6, h7⟩ := h k hk
  obtain ⟨A0, n0, c0, rfl⟩ := h6.shape
  obtain ⟨A1, n1, c1, rfl⟩ := h7.shape'
  exact ⟨b, off, x, A0, n0, c0, A1, n1, c1, h1, h2, h3, h5, h6, h7⟩

/-! ### Sizes -/
abbrev bkL (x : Bk) : Nat := x.b.w.length + x.e.length
def szBks (left : Int) (l : List Bk) : Int := if (l.length : Int) ≤ left then szGo bkL (left - l.length) l else -1
theorem szBk_yes {z : Int} {x : Bk} (h : (bkL x : Int) ≤ z) : szBk z x = z - bkL x := by
  have h1 : szBr z x.b = z - x.b.w.length := by unfold szBr szOf; rw [if_pos (by simp only [bkL] at h; omega)]
  have h2 : ¬ (z - (x.b.w.length : Int) < 0) := by simp only [bkL] at h; omega
  unfold szBk
  rw [h1, if_neg h2]
  unfold szOf
  rw [if_pos (by simp only [bkL] at h; omega)]
  simp only [bkL]
  omega
theorem szBk_no {z : Int} {x : Bk} (h0 : 0 ≤ z) (h : ¬ (bkL x : Int) ≤ z) : szBk z x = -1 := by
  unfold szBk
  by_cases hw : (x.b.w.length : Int) ≤ z
  · have h1 : szBr z x.b = z - x.b.w.length := by unfold szBr szOf; rw [if_pos hw]
    rw [h1, if_neg (by omega)]
    unfold szOf
    rw [if_neg (by simp only [bkL] at h; omega)]
  · have h1 : szBr z x.b = -1 := by unfold szBr szOf; rw [if_neg hw]
    rw [h1, if_pos (by omega)]
theorem szBks_pos {left : Int} {l : List Bk} (h : ¬ szBks left l < 0) : szBks left l ≤ left ∧ (l.length : Int) ≤ left ∧ ∀ x ∈ l, (bkL x : Int) ≤ left := by
  unfold szBks at h ⊢
  split at h
  · rename_i hl
    rw [if_pos hl]
    obtain ⟨h1, h2⟩ := szGo_pos bkL l _ (Int.not_lt.1 h)
    exact ⟨by omega, hl, fun x hx => by have := h2 x hx; omega⟩
  · omega
theorem szGo_sum {α : Type} (f : α → Nat) : ∀ (l : List α) (z : Int), 0 ≤ szGo f z l → ((l.map f).sum : Int) ≤ z
  | [], z, h => by simpa [szGo] using h
  | x :: xs, z, h => by
    rw [szGo] at h
    split at h
    · have := szGo_sum f xs _ h
      simp only [List.map_cons, List.sum_cons, Int.natCast_add]
      omega
    · omega
/-- How many marks a block takes. -/
abbrev bkM (x : Bk) : Nat := 1 + x.b.w.length + x.e.length * 6
def bkSum (l : List Bk) : Nat := (l.map bkM).sum
theorem bkSum_le : ∀ (l : List Bk), bkSum l ≤ l.length + 6 * (l.map bkL).sum
  | [] => by simp [bkSum]
  | x :: xs => by
    have ih := bkSum_le xs
    unfold bkSum at ih ⊢
    simp only [List.map_cons, List.sum_cons, List.length_cons, bkM, bkL] at ih ⊢
    omega
/-- What fits: all lengths. -/
structure FitB (l : List Bk) : Prop where
  len : l.length ≤ 1048576
  all : ∀ x ∈ l, bkL x ≤ 1048576
  sum : bkSum l ≤ 7340032
theorem szBks_fit {left z : Int} {l : List Bk} (h : szBks left l = z) (hz : 0 ≤ z) (hl : left ≤ 1048576 := by omega) : FitB l ∧ z ≤ 1048576 := by
  subst h
  obtain ⟨h1, h2, h3⟩ := szBks_pos (Int.not_lt.2 hz)
  have h4 : ((l.map bkL).sum : Int) ≤ left - l.length := by
    unfold szBks at hz
    rw [if_pos h2] at hz
    exact szGo_sum bkL l _ hz
  have h5 := bkSum_le l
  exact ⟨⟨by omega, fun x hx => by have := h3 x hx; omega, by omega⟩, by omega⟩


/-! ### Rows of blocks of the call's own -/
def oBk (w : World) (lo hi : Nat) (us : List Value) (x : Bk) : Prop := ∃ s t m, us = [.int .i64 x.b.n, s, t] ∧ lo ≤ m ∧ m ≤ hi ∧ OwC w lo m 2 1 s x.b.w.length (vI x.b.w) ∧ OwC w m hi 61 6 t x.e.length (vE x.e)
def OwBks (w : World) (lo hi : Nat) (v : Value) (l : List Bk) : Prop := OwN oBk 33 3 w lo hi v l
theorem oBk_rd {w : World} {lo hi : Nat} {us : List Value} {x : Bk} (h : oBk w lo hi us x) : RdBk w hi us x := by
  obtain ⟨s, t, m, h1, h2, h3, h4, h5⟩ := h
  exact ⟨s, t, h1, (RdI.of_own h4).more h3, RdS.of_own Ev.len h5⟩
theorem oBk_keep {w w' : World} {lo hi : Nat} (hk : ∀ g, lo ≤ g → g < hi → w'.heap[g]? = w.heap[g]?) (a b : Nat) (us : List Value) (x : Bk) (ha : lo ≤ a) (hb : b ≤ hi) (h : oBk w a b us x) : oBk w' a b us x := by
  obtain ⟨s, t, m, h1, h2, h3, h4, h5⟩ := h
  exact ⟨s, t, m, h1, h2, h3, h4.keep fun g hg0 hg1 => hk g (by omega) (by omega), h5.keep fun g hg0 hg1 => hk g (by omega) (by omega)⟩
theorem RdBks.of_own {w : World} {lo hi : Nat} {v : Value} {l : List Bk} (h : OwBks w lo hi v l) : RdBks w hi v l :=
  RdN.of_own (fun _ _ _ _ h => oBk_rd h) (fun _ _ us x hB h => RdBk.more hB us x h) (by decide) h
theorem OwBks.below {w w' : World} {lo hi : Nat} {v : Value} {l : List Bk} (h : OwBks w lo hi v l) (hb : Below hi w w') : OwBks w' lo hi v l :=
  OwN.keep (fun g _ hg => hb.block g hg) (fun a b us x ha hb' h => oBk_keep (fun g _ hg => hb.block g hg) a b us x ha hb' h) h
theorem OwBks.only {w w' : World} {lo hi a b : Nat} {v : Value} {l : List Bk} (h : OwBks w lo hi v l) (hw : Only a b w w') (hd : hi ≤ a ∨ b ≤ lo) (hs : hi ≤ w.heap.size) : OwBks w' lo hi v l :=
  OwN.keep (fun g h0 h1 => hw.block g (by omega) (by omega)) (fun a' b' us x ha hb' h => oBk_keep (fun g h0 h1 => hw.block g (by omega) (by omega)) a' b' us x ha hb' h) h


set_option maxHeartbeats 2000000 in
set_option maxRecDepth 100000 in
theorem eqBlockS_same (v u : Value) (l : List Bk) (w : World) (hl : RdBks w w.heap.size v l) (hm : RdBks w w.heap.size u l) :
    Calls Try.prog 17 #[v, u] w fun x w' => x = .returned (.bool true) ∧ Below w.heap.size w w' := by
  obtain ⟨A, cp, rfl⟩ := RdN.shape hl
  obtain ⟨A', cp', rfl⟩ := RdN.shape hm
  have hbig := RdN.le hl
  have HL := Lib.hid hl
  have HM := Lib.hid hm
  clear hl hm
  generalize hln : l.length = n at *
  go_enter Try.func17, Try.ntmps17
  go_wp2
  go_loopw [5] (fun i wr => ∃ k : Nat, k ≤ n ∧ i = .int .i64 k ∧ Below w.heap.size w wr) (fun i _ => n - (intOf i).toNat)
  case atStart => exact ⟨0, Nat.zero_le _, rfl, Below.refl _ _⟩
  case round =>
    rename_i wr
    obtain ⟨k, hk, rfl, hb⟩ := hrel
    by_cases hlt : k < n
    · obtain ⟨b, off, x, A0, n0, c0, A1, n1, c1, rfl, hbb, hlk, hc, hs, ht⟩ := (RdBks.below HL.out hb).at_ hlt
      obtain ⟨b', off', x', A2, n2, c2, A3, n3, c3, rfl, hbb', hlk', hc', hp, hq⟩ := (RdBks.below HM.out hb).at_ hlt
      obtain rfl : x = x' := by rw [hlk] at hlk'; injection hlk'
      have HS := fun X => Lib.hid (show RdBkV (wgrow wr X) (wgrow wr X).heap.size (.agg #[.int .i64 x.b.n, .slice A0 n0 c0, .slice A1 n1 c1]) x from (RdBkV.more (RdBkV.below (⟨_, _, rfl, hs.more hb.size, ht.more hb.size⟩) (below_wgrow wr X)) (below_wgrow wr X).size))
      have HT := fun X => Lib.hid (show RdBkV (wgrow wr X) (wgrow wr X).heap.size (.agg #[.int .i64 x.b.n, .slice A2 n2 c2, .slice A3 n3 c3]) x from (RdBkV.more (RdBkV.below (⟨_, _, rfl, hp.more hb.size, hq.more hb.size⟩) (below_wgrow wr X)) (below_wgrow wr X).size))
      obtain ⟨e0, e1, e2⟩ := hc.grow3
      obtain ⟨f0, f1, f2⟩ := hc'.grow3
      have HB := Lib.hid hb
      clear hc hc' hlk hlk' hb hs ht hp hq
      have HQ := fun X => Lib.hid (by have := eqBlock_any _ _ x x _ (HS X).out (HT X).out; simpa only [decide_true] using this)
      clear HS HT
      go_wp2
      refine wp_region_grow (by kernel_rfl) (by kernel_rfl) ?_
      repeat (go_big_quiet_step ((go_at_call 12; exact calls_grow (HQ _).out)))
      refine wpQuiet_nil ?_
      intro w1 hb1
      have HB1 := HB.out.trans (hb1.mono HB.out.size)
      go_wp2
      exact ⟨⟨k + 1, by omega, by go_num, HB1⟩, by simp [intOf]; omega⟩
    · go_wp2
      go_ret
      exact ⟨rfl, hb⟩

section
variable {H : Type} {enc : TypeId × Value → H} {W : World}
set_option maxRecDepth 100000 in
theorem opens_evS : Opens enc Try.prog W 25 (fun v l => RdE W W.heap.size v l) := by
  intro n v y h
  obtain ⟨l, A, n', c, rfl, hn, hl, hh⟩ := opens_rdN (R := fun _ _ us (x : Ev) => us = x.cells) (sz := 6) Try.underlying25 (by kernel_rfl) (by decide) (by
    intro us n y hl h
    obtain ⟨hs, hf⟩ := opens_fields Try.underlying65 (by kernel_rfl) (by kernel_rfl) h
    obtain ⟨u0, q0, z0, g0, t0⟩ := hf 0 _ rfl
    obtain ⟨u1, q1, z1, g1, t1⟩ := hf 1 _ rfl
    obtain ⟨u2, q2, z2, g2, t2⟩ := hf 2 _ rfl
    obtain ⟨u3, q3, z3, g3, t3⟩ := hf 3 _ rfl
    obtain ⟨u4, q4, z4, g4, t4⟩ := hf 4 _ rfl
    obtain ⟨u5, q5, z5, g5, t5⟩ := hf 5 _ rfl
    obtain ⟨x0, rfl, _⟩ := opens_int (enc := enc) (W := W) (P := Try.prog) Try.underlying2 _ _ _ t0
    obtain ⟨x1, rfl, _⟩ := opens_int (enc := enc) (W := W) (P := Try.prog) Try.underlying2 _ _ _ t1
    obtain ⟨x2, rfl, _⟩ := opens_int (enc := enc) (W := W) (P := Try.prog) Try.underlying2 _ _ _ t2
    obtain ⟨x3, rfl, _⟩ := opens_int (enc := enc) (W := W) (P := Try.prog) Try.underlying2 _ _ _ t3
    obtain ⟨x4, rfl, _⟩ := opens_int (enc := enc) (W := W) (P := Try.prog) Try.underlying2 _ _ _ t4
    obtain ⟨x5, rfl, _⟩ := opens_int (enc := enc) (W := W) (P := Try.prog) Try.underlying2 _ _ _ t5
    match us, hl with
    | [a, b, c, d, e, f], _ =>
      simp at g0 g1 g2 g3 g4 g5
      exact ⟨⟨x0, x1, x2, x3, x4, x5⟩, by rw [g0, g1, g2, g3, g4, g5]⟩) _ _ _ h
  refine ⟨l, A, n', c, rfl, hn, hl, fun k hk => ?_⟩
  obtain ⟨b, off, x, us, h1, h2, h3, h4, h5, rfl⟩ := hh k hk
  exact ⟨b, off, x, h1, h2, h3, h5⟩
theorem opens_fld {P : Program} {e : TypeId} {fs : Array Field} {j sz : Nat} {f : Field} (he : P.underlying e = some (.struct fs)) (hj : fs[j]? = some f) (hs : P.cellsOf f.type = sz) {us : List Value} {n : Nat} {y : DataW H × List MemPlace}
    (h : DataW.trod enc P W 0 (fun _ => true) true n e us = some y) : ∃ q z, DataW.trod enc P W 0 (fun _ => true) true q f.type ((us.drop f.offset).take sz) = some z := by
  obtain ⟨ys, n', hn', hy, hlen, hyl, hf⟩ := DataW.trod_struct he h
  have h1 := hf j f hj
  rw [hs] at h1
  have hjl : j < fs.size := (Array.getElem?_eq_some_iff.1 hj).1
  have hys : ys[j]? = some (ys[j]'(by omega)) := List.getElem?_eq_getElem (by omega)
  exact ⟨_, _, h1.trans hys⟩
set_option maxRecDepth 100000 in
theorem opens_blk (us : List Value) (n : Nat) (y : DataW H × List MemPlace) (hl : us.length = 3) (h : DataW.trod enc Try.prog W 0 (fun _ => true) true n 27 us = some y) : ∃ x, RdBk W W.heap.size us x := by
  obtain ⟨q0, z0, t0⟩ := opens_fld (j := 0) (sz := 2) Try.underlying27 rfl (by kernel_rfl) h
  obtain ⟨q1, z1, t1⟩ := opens_fld (j := 1) (sz := 1) Try.underlying27 rfl (by kernel_rfl) h
  match us, hl with
  | [a, b, c], _ =>
    obtain ⟨hs, hf⟩ := opens_fields Try.underlying24 (by kernel_rfl) (by kernel_rfl) t0
    obtain ⟨u0, p0, w0, g0, s0⟩ := hf 0 _ rfl
    obtain ⟨u1, p1, w1, g1, s1⟩ := hf 1 _ rfl
    obtain ⟨m, rfl, _⟩ := opens_int (enc := enc) (W := W) (P := Try.prog) Try.underlying2 _ _ _ s0
    obtain ⟨l, hl, _⟩ := opens_ints (enc := enc) (W := W) (P := Try.prog) Try.underlying22 Try.underlying2 (by kernel_rfl) _ _ _ s1
    obtain ⟨e, he⟩ := opens_evS _ c _ t1
    simp at g0 g1
    subst g0 g1
    exact ⟨⟨⟨m, l⟩, e⟩, _, _, rfl, hl, he⟩
end


end Go.Proofs.Ytfeonaocmnpkcaa

/-
  Rows of blocks marked by the laws, and the marks held.
-/
namespace Go.Proofs.Ytfeonaocmnpkcaa
set_option linter.unusedVariables false
set_option linter.unusedSimpArgs false
open Go.RowKit

theorem bkSum_next {l : List Bk} {k : Nat} {x : Bk} (hx : l[k]? = some x) : bkSum (l.take (k + 1)) = bkSum (l.take k) + bkM x := by
  have : l.take (k + 1) = l.take k ++ [x] := by rw [List.take_add_one, hx]; rfl
  rw [this]
  simp [bkSum]
theorem bkSum_take_le (l : List Bk) (k : Nat) : bkSum (l.take k) ≤ bkSum l := by
  have h : bkSum l = bkSum (l.take k) + bkSum (l.drop k) := by
    unfold bkSum
    rw [← List.sum_append, ← List.map_append, List.take_append_drop]
  omega
/-- A row of blocks of the call's own that has been marked from K on. -/
def OmBks (w : World) (lo hi : Nat) (v : Value) (l : List Bk) (K : Int) : Prop :=
  ∃ (o0 o1 : Nat) (a b : Nat → Nat) (f : Nat → Value), lo ≤ o0 ∧ o1 ≤ hi ∧ (∀ k, k < l.length → lo ≤ a k ∧ b k ≤ hi ∧ (b k ≤ o0 ∨ o1 ≤ a k)) ∧ (∀ i j, i < l.length → j < l.length → i ≠ j → b i ≤ a j ∨ b j ≤ a i) ∧
    OwC w o0 o1 33 3 v l.length ((List.range (l.length * 3)).map f) ∧ ∀ k x, l[k]? = some x → f (k * 3) = .int .i64 (K + (bkSum (l.take k) : Int)) ∧
      ∃ m, a k ≤ m ∧ m ≤ b k ∧ OwC w (a k) m 2 1 (f (k * 3 + 1)) x.b.w.length (vM (K + (bkSum (l.take k) : Int) + 1) (x.b.w.length * 1)) ∧
        OwC w m (b k) 61 6 (f (k * 3 + 2)) x.e.length (vM (K + (bkSum (l.take k) : Int) + 1 + (x.b.w.length : Int)) (x.e.length * 6))
theorem OmBks.below {w w' : World} {lo hi : Nat} {v : Value} {l : List Bk} {K : Int} (h : OmBks w lo hi v l K) (hb : Below hi w w') : OmBks w' lo hi v l K := by
  obtain ⟨o0, o1, a, b, f, g0, g1, g2, g3, g4, g5⟩ := h
  refine ⟨o0, o1, a, b, f, g0, g1, g2, g3, g4.below (hb.mono g1), fun k x hx => ?_⟩
  obtain ⟨h0, m, h1, h2, h3, h4⟩ := g5 k x hx
  have h5 := g2 k (List.getElem?_eq_some_iff.1 hx).1
  exact ⟨h0, m, h1, h2, h3.below (hb.mono (by omega)), h4.below (hb.mono (by omega))⟩
theorem OmBks.only {w w' : World} {lo hi c d : Nat} {v : Value} {l : List Bk} {K : Int} (h : OmBks w lo hi v l K) (hw : Only c d w w') (hd : hi ≤ c ∨ d ≤ lo) (hs : hi ≤ w.heap.size) : OmBks w' lo hi v l K := by
  obtain ⟨o0, o1, a, b, f, g0, g1, g2, g3, g4, g5⟩ := h
  refine ⟨o0, o1, a, b, f, g0, g1, g2, g3, g4.only hw (by omega) (by omega), fun k x hx => ?_⟩
  obtain ⟨h0, m, h1, h2, h3, h4⟩ := g5 k x hx
  have h5 := g2 k (List.getElem?_eq_some_iff.1 hx).1
  exact ⟨h0, m, h1, h2, h3.only hw (by omega) (by omega), h4.only hw (by omega) (by omega)⟩

set_option maxHeartbeats 8000000 in
set_option maxRecDepth 100000 in
theorem markBlockS_any (v : Value) (l : List Bk) (K : Int) (w : World) (lo hi : Nat) (ho : OwBks w lo hi v l) (hh : hi ≤ w.heap.size) (hK : 0 ≤ K) (hn : K + (bkSum l : Int) ≤ 1000000000000) :
    Calls Try.prog 20 #[v, .int .i64 K] w fun e w' => e = .returned (.int .i64 (K + (bkSum l : Int))) ∧ OmBks w' lo hi v l K ∧ Only lo hi w w' := by
  obtain ⟨o0, o1, a, b, f, g0, g1, g2, g3, g4, g5⟩ := ho
  rcases g4.2 with ⟨hl0, A, c, rfl⟩ | ⟨g, cap, cur, rfl, hlo, hhi, hg, hnc, hcap, hsz, hx⟩
  · have hl1 : l = [] := List.eq_nil_of_length_eq_zero hl0
    subst hl1
    go_enter Try.func20, Try.ntmps20
    go_wp2
    go_loopw [1, 5] (fun t i wr => t = .int .i64 K ∧ i = .int .i64 0 ∧ w = wr) (fun _ i _ => 0 - (intOf i).toNat)
    case atStart => exact ⟨rfl, rfl, rfl⟩
    case round =>
      rename_i wr
      obtain ⟨rfl, rfl, rfl⟩ := hrel
      go_wp2
      go_ret
      exact ⟨ret_int (by simp [bkSum]), ⟨o0, o1, a, b, f, g0, g1, g2, g3, by simpa using g4, fun k x hx => by simp at hx⟩, Only.refl _ _ _⟩
  · have hcf : ∀ i, i < l.length * 3 → cur.getD i undef = f i := by
      intro i hi
      have h1 := congrArg (fun xs => xs[i]?) hx
      simp only [List.getElem?_take, if_pos hi, Array.getElem?_toList, List.getElem?_map, List.getElem?_range hi, Option.map_some] at h1
      rw [Array.getD_eq_getD_getElem?, h1]
      rfl
    have hrow0 : w.rowIs g 33 (cap * 3) (fun i => cur.getD i undef) := ⟨cur, hg, hsz, fun i hi => row_getD (by omega)⟩
    have HR0 := Lib.hid hrow0
    have HCF := Lib.hid hcf
    have Hnc := Lib.hid hnc
    have HG := Lib.hid g5
    have H2 := Lib.hid g2
    have H3 := Lib.hid g3
    have HSL := Lib.hid (fun k => bkSum_take_le l k)
    have HSN := Lib.hid (fun (k : Nat) (x : Bk) (hx : l[k]? = some x) => bkSum_next hx)
    have HS0 := Lib.hid (show bkSum (l.take 0) = 0 by simp [bkSum])
    have HSE := Lib.hid (show bkSum (l.take l.length) = bkSum l by rw [List.take_length])
    have hom : ∀ W (F : Nat → Value), OwC W o0 o1 33 3 (.slice (some ⟨g, 0, none⟩) l.length cap) l.length ((List.range (l.length * 3)).map F) → (∀ k x, l[k]? = some x → F (k * 3) = .int .i64 (K + (bkSum (l.take k) : Int)) ∧
      ∃ m, a k ≤ m ∧ m ≤ b k ∧ OwC W (a k) m 2 1 (F (k * 3 + 1)) x.b.w.length (vM (K + (bkSum (l.take k) : Int) + 1) (x.b.w.length * 1)) ∧
        OwC W m (b k) 61 6 (F (k * 3 + 2)) x.e.length (vM (K + (bkSum (l.take k) : Int) + 1 + (x.b.w.length : Int)) (x.e.length * 6))) → OmBks W lo hi (.slice (some ⟨g, 0, none⟩) l.length cap) l K :=
      fun W F h1 h2 => ⟨o0, o1, a, b, F, g0, g1, g2, g3, h1, h2⟩
    have HOM := Lib.hid hom
    generalize hS : (fun k => bkSum (l.take k)) = S at *
    have hSk : ∀ k, bkSum (l.take k) = S k := fun k => by rw [← hS]
    simp only [hSk] at HSL HSN HS0 HSE HOM
    generalize bkSum l = T at *
    clear g4 g5 g2 g3 hom hSk hS hg hrow0 hcf hx hnc
    have hcap2 : cap ≤ maxLen := hcap
    generalize hl : l.length = n at *
    have HL := Lib.hid hl
    have hnle : n ≤ 9223372036854775807 := by have := Hnc.out; unfold maxLen at hcap; omega
    clear hl
    go_enter Try.func20, Try.ntmps20
    go_wp2
    go_loopw [1, 5] (fun t i wr => ∃ (k : Nat) (F : Nat → Value), k ≤ n ∧ i = .int .i64 k ∧ t = .int .i64 (K + (S k : Int)) ∧ wr.rowIs g 33 (cap * 3) F ∧ Hid (∀ j, j < n → F (j * 3 + 1) = f (j * 3 + 1) ∧ F (j * 3 + 2) = f (j * 3 + 2)) ∧
      Hid (∀ j, j < k → F (j * 3) = .int .i64 (K + (S j : Int))) ∧ Hid (∀ j x, k ≤ j → l[j]? = some x → oBk wr (a j) (b j) ((List.range 3).map fun q => f (j * 3 + q)) x) ∧
      Hid (∀ j x, j < k → l[j]? = some x → ∃ m, a j ≤ m ∧ m ≤ b j ∧ OwC wr (a j) m 2 1 (f (j * 3 + 1)) x.b.w.length (vM (K + (S j : Int) + 1) (x.b.w.length * 1)) ∧ OwC wr m (b j) 61 6 (f (j * 3 + 2)) x.e.length (vM (K + (S j : Int) + 1 + (x.b.w.length : Int)) (x.e.length * 6))) ∧
      Only lo hi w wr) (fun _ i _ => n - (intOf i).toNat)
    case atStart => exact ⟨0, _, Nat.zero_le _, rfl, by rw [HS0.out]; simp, HR0.out, fun j hj => ⟨HCF.out _ (by omega), HCF.out _ (by omega)⟩, fun j hj => absurd hj (by omega), fun j x _ hx => HG.out j x hx, fun j x hj => absurd hj (by omega), Only.refl _ _ _⟩
    case round =>
      rename_i wr
      obtain ⟨k, F, hk, rfl, rfl, hrow, hF, hFk, hgs, hmk, hon⟩ := hrel
      have hsk := HSL.out k
      by_cases hlt : k < n
      · have hx : l[k]? = some (l[k]'(by rw [HL.out]; exact hlt)) := List.getElem?_eq_getElem _
        obtain ⟨x, hxe⟩ : ∃ x, x = l[k]'(by rw [HL.out]; exact hlt) := ⟨_, rfl⟩
        rw [← hxe] at hx
        obtain ⟨s, t, m, hs, hm0, hm1, hos, hot⟩ := hgs.out k x (Nat.le_refl _) hx
        simp only [show List.range 3 = [0, 1, 2] from rfl, List.map_cons, List.map_nil, List.cons.injEq, Nat.add_zero, and_true] at hs
        obtain ⟨hs0, hs1, hs2⟩ := hs
        subst hs1 hs2
        obtain ⟨A2, c2, hse, -⟩ := hos.cells
        obtain ⟨A3, c3, hte, -⟩ := hot.cells
        have hsn := HSN.out k x hx
        simp only [bkM] at hsn
        have hsk1 := HSL.out (k + 1)
        have hcc := Hnc.out
        obtain ⟨w1, w2, w3⟩ := H2.out k hlt
        have d0 := hrow.cell (i := k * 3) (by omega)
        have d1 := hrow.cell (i := k * 3 + 1) (by omega)
        have d2 := hrow.cell (i := k * 3 + 2) (by omega)
        have g0' := fun i => hrow.frozen i
        obtain ⟨hF1, hF2⟩ := hF.out k hlt
        rw [hF1, hse] at d1
        rw [hF2, hte] at d2
        have HSE1 := Lib.hid hse
        have HTE1 := Lib.hid hte
        have HR1 := Lib.hid (hrow.set (k * 3) (.int .i64 (K + (S k : Int))))
        have HX := Lib.hid hx
        have HON := Lib.hid (hon.setCell (p := ⟨g, k * 3, none⟩) (Nat.le_trans g0 hlo) (Nat.lt_of_lt_of_le hhi g1) (.int .i64 (K + (S k : Int))))
        have hon1 : Only o0 o1 wr (wr.setCell ⟨g, k * 3, none⟩ (.int .i64 (K + (S k : Int)))) := (Only.refl _ _ _).setCell hlo hhi _
        have hwsz : hi ≤ wr.heap.size := Nat.le_trans hh hon.size
        have HOS := Lib.hid (hos.only hon1 (by omega) (by omega))
        have HOT := Lib.hid (hot.only hon1 (by omega) (by omega))
        have HON1 := Lib.hid hon1
        rw [hse] at HOS
        rw [hte] at HOT
        have hz1 : 0 ≤ K + (S k : Int) + 1 := by omega
        have hz2 : K + (S k : Int) + 1 + ((x.b.w.length : Nat) : Int) ≤ 1000000000000 := by omega
        have hz3 : 0 ≤ K + (S k : Int) + 1 + ((x.b.w.length : Nat) : Int) := by omega
        have hz4 : K + (S k : Int) + 1 + ((x.b.w.length : Nat) : Int) + ((x.e.length : Nat) : Int) * 6 ≤ 1000000000000 := by omega
        have HSN2 := Lib.hid (show K + (S k : Int) + 1 + ((x.b.w.length : Nat) : Int) + ((x.e.length : Nat) : Int) * 6 = K + (S (k + 1) : Int) by omega)
        have hgw : g < wr.heap.size := Nat.lt_of_lt_of_le (Nat.lt_of_lt_of_le hhi g1) hwsz
        have hq1 : (wr.setCell ⟨g, k * 3, none⟩ (.int .i64 (K + (S k : Int)))).cell? ⟨g, k * 3 + 1, none⟩ = some (.slice A2 x.b.w.length c2) := by rw [World.cell?_setCell_other _ _ _ _ (by intro e0; injection e0 with _ e2 _; omega)]; exact d1
        have hq2 : (wr.setCell ⟨g, k * 3, none⟩ (.int .i64 (K + (S k : Int)))).cell? ⟨g, k * 3 + 2, none⟩ = some (.slice A3 x.e.length c3) := by rw [World.cell?_setCell_other _ _ _ _ (by intro e0; injection e0 with _ e2 _; omega)]; exact d2
        have HQ2 := Lib.hid hq2
        clear hx hxe hs0 hos hot hrow hsn hse hte hon hon1 hq1 hq2 hF1 hF2 d2
        go_wp2_with fail
        refine (markI_any _ _ _ _ _ _ _ HOS.out hz1 hz2).mono ?_
        rintro e wn ⟨rfl, hmo, hmw⟩
        have hq2n : wn.cell? ⟨g, k * 3 + 2, none⟩ = some (.slice A3 x.e.length c3) := (World.cell?_of_block (a := ⟨g, k * 3 + 2, none⟩) (hmw.block g (by simp; omega) (by omega))).trans HQ2.out
        have HMO := Lib.hid hmo
        have HMW := Lib.hid hmw
        have HOT2 := Lib.hid (HOT.out.only hmw (.inr (Nat.le_refl _)) (by simp; omega))
        clear hmo hmw d1 d0 g0'
        go_wp2_with fail
        refine (markE_any _ _ _ _ _ _ _ HOT2.out hz3 hz4).mono ?_
        rintro e wm ⟨rfl, hmo2, hmw2⟩
        have hMW := HMW.out
        have hwn : wr.heap.size ≤ wn.heap.size := by have := hMW.size; simpa using this
        have honA : Only (a k) (b k) (wr.setCell ⟨g, k * 3, none⟩ (.int .i64 (K + (S k : Int)))) wm := (hMW.wide (Nat.le_refl _) hm1).trans (hmw2.wide hm0 (Nat.le_refl _))
        have hMK : OwC wm (a k) m 2 1 (.slice A2 x.b.w.length c2) x.b.w.length (vM (K + (S k : Int) + 1) (x.b.w.length * 1)) := HMO.out.only hmw2 (.inl (Nat.le_refl _)) (by omega)
        have HOA := Lib.hid honA
        have HROW := Lib.hid (HR1.out.of_block (honA.block g (by simp; omega) (by omega)))
        have HMKK := Lib.hid hMK
        have HMO2 := Lib.hid hmo2
        have HONN := Lib.hid (HON.out.trans (honA.wide w1 w2))
        clear hMW hMK hmo2 hmw2 honA hq2n
        go_wp2
        refine ⟨⟨k + 1, _, by omega, by go_num, by rw [HSN2.out], HROW.out, fun j hj => ?_, fun j hj => ?_, fun j y hj hy => ?_, fun j y hj hy => ?_, HONN.out⟩, by simp [intOf]; omega⟩
        · obtain ⟨h1, h2⟩ := hF.out j hj
          show (if j * 3 + 1 = k * 3 then _ else F (j * 3 + 1)) = _ ∧ (if j * 3 + 2 = k * 3 then _ else F (j * 3 + 2)) = _
          rw [if_neg (by omega), if_neg (by omega)]
          exact ⟨h1, h2⟩
        · show (if j * 3 = k * 3 then _ else F (j * 3)) = _
          by_cases hjk : j = k
          · subst hjk
            rw [if_pos rfl]
          · rw [if_neg (by omega)]
            exact hFk.out j (by omega)
        · have hjn : j < n := by rw [← HL.out]; exact (List.getElem?_eq_some_iff.1 hy).1
          obtain ⟨s', t', m', h1, h2, h3, h4, h5⟩ := hgs.out j y (by omega) hy
          have h6 := H2.out j hjn
          have h7 := H3.out k j hlt hjn (by omega)
          exact ⟨s', t', m', h1, h2, h3, (h4.only HON1.out (by omega) (by omega)).only HOA.out (by omega) (by simp; omega), (h5.only HON1.out (by omega) (by omega)).only HOA.out (by omega) (by simp; omega)⟩
        · have hjn : j < n := by rw [← HL.out]; exact (List.getElem?_eq_some_iff.1 hy).1
          by_cases hjk : j = k
          · subst hjk
            have hxy : x = y := by have := HX.out.symm.trans hy; injection this
            subst hxy
            refine ⟨m, hm0, hm1, ?_, ?_⟩
            · rw [HSE1.out]; exact HMKK.out
            · rw [HTE1.out]; exact HMO2.out
          · obtain ⟨m', h2, h3, h4, h5⟩ := hmk.out j y (by omega) hy
            have h6 := H2.out j hjn
            have h7 := H3.out k j hlt hjn (by omega)
            exact ⟨m', h2, h3, (h4.only HON1.out (by omega) (by omega)).only HOA.out (by omega) (by simp; omega), (h5.only HON1.out (by omega) (by omega)).only HOA.out (by omega) (by simp; omega)⟩
      · have hkn : k = n := by omega
        have HON := Lib.hid hon
        have HR := Lib.hid hrow
        have HZ := Lib.hid (show K + (S k : Int) = K + (T : Int) by rw [hkn, HSE.out])
        clear hon hrow
        go_wp2
        go_ret
        refine ⟨ret_int HZ.out, HOM.out wr F ?_ (fun j x hx => ?_), HON.out⟩
        · refine ⟨by simp, .inr ?_⟩
          obtain ⟨cur', h1, h2, h3⟩ := HR.out
          refine ⟨g, cap, cur', rfl, hlo, hhi, h1, Hnc.out, hcap2, h2, ?_⟩
          have hcc := Hnc.out
          apply List.ext_getElem?
          intro i
          by_cases hi : i < n * 3
          · rw [List.getElem?_take, if_pos hi, Array.getElem?_toList, h3 i (by omega)]
            simp [hi]
          · rw [List.getElem?_eq_none (by simp; omega), List.getElem?_eq_none (by simp; omega)]
        · have hjn : j < k := by rw [hkn, ← HL.out]; exact (List.getElem?_eq_some_iff.1 hx).1
          obtain ⟨h1, h2⟩ := hF.out j (by omega)
          rw [h1, h2]
          exact ⟨hFk.out j hjn, hmk.out j x hjn hx⟩

end Go.Proofs.Ytfeonaocmnpkcaa

/-
  Many own rows side by side, each in a block of its own.
-/
namespace Go.Proofs.Ytfeonaocmnpkcaa
set_option linter.unusedVariables false
set_option linter.unusedSimpArgs false
open Go.RowKit

/-- A row: the type and the size of its elements, its header, how many there are, its cells. -/
structure Spot where
  E : TypeId
  sz : Nat
  v : Value
  n : Nat
  xs : List Value
def Spot.none_ (E : TypeId) (sz : Nat) : Spot := ⟨E, sz, .slice none 0 0, 0, []⟩
def Spot.owned (s : Spot) (w : World) (B : Nat) : Prop := w.ownsRow B s.E s.sz s.v s.n s.xs
def putS (S : Nat → Spot) (p : Nat) (s : Spot) : Nat → Spot := fun j => if j = p then s else S j
theorem putS_same (S : Nat → Spot) (p : Nat) (s : Spot) : putS S p s p = s := if_pos rfl
theorem putS_ne {S : Nat → Spot} {p j : Nat} {s : Spot} (h : j ≠ p) : putS S p s j = S j := if_neg h
/-- The rows are the call's own (block B or later), no two in one block. -/
structure Spots (w : World) (B N : Nat) (S : Nat → Spot) : Prop where
  own : ∀ j, j < N → (S j).owned w B
  dis : ∀ i j g, i < N → j < N → i ≠ j → (S i).v.ownBlock = some g → (S j).v.ownBlock ≠ some g
theorem own_other {w w' : World} {base e sz n : Nat} {v : Value} {xs : List Value} {row : Option Nat} (h : w.ownsRow base e sz v n xs) (hg : w.grownBy w' row) (hd : ∀ g, v.ownBlock = some g → row ≠ some g) : w'.ownsRow base e sz v n xs := by
  refine ⟨h.1, ?_⟩
  rcases h.2 with h2 | ⟨g, cap, cur, hv, hb, hh, h3⟩
  · exact .inl h2
  · subst hv
    exact .inr ⟨g, cap, cur, rfl, hb, (hg.block g (Array.getElem?_eq_some_iff.1 hh).1 (fun e => hd g rfl e.symm)).trans hh, h3⟩
theorem own_far {w : World} {base e sz n : Nat} {v : Value} {xs : List Value} (h : w.ownsRow base e sz v n xs) {p : Addr} (hp : v.ownBlock ≠ some p.block) (u : Value) : (w.setCell p u).ownsRow base e sz v n xs := by
  refine ⟨h.1, ?_⟩
  rcases h.2 with h2 | ⟨g, cap, cur, hv, hb, hh, h3⟩
  · exact .inl h2
  · subst hv
    exact .inr ⟨g, cap, cur, rfl, hb, (Go.Deep.blk_setCell_other _ _ _ _ (fun e => hp (by rw [← e]; rfl))).trans hh, h3⟩
section
variable {w w' : World} {B N : Nat} {S : Nat → Spot}
theorem Spots.lt (h : Spots w B N S) {j : Nat} (hj : j < N) : ∀ g, (S j).v.ownBlock = some g → B ≤ g ∧ g < w.heap.size := World.ownsRow.lt (h.own j hj)
theorem Spots.below (h : Spots w B N S) (hb : Below w.heap.size w w') : Spots w' B N S := ⟨fun j hj => own_below (h.own j hj) hb, h.dis⟩
theorem Spots.alloc (h : Spots w B N S) (o : Obj) : Spots (w.alloc o) B N S := h.below ((Below.refl _ _).alloc (Nat.le_refl _) o)
theorem Spots.drew (h : Spots w B N S) : Spots w.drew B N S := ⟨fun j hj => h.own j hj, h.dis⟩
theorem Spots.congr {S' : Nat → Spot} (h : Spots w B N S) (e : ∀ j, j < N → S' j = S j) : Spots w B N S' :=
  ⟨fun j hj => by rw [e j hj]; exact h.own j hj, fun i j g hi hj hij hg => by rw [e i hi] at hg; rw [e j hj]; exact h.dis i j g hi hj hij hg⟩
/-- A row replaced by one that stands in its own block or in one of no other row. -/
theorem Spots.put (h : Spots w B N S) (p : Nat) (s : Spot) (hown : s.owned w B) (hat : ∀ g, s.v.ownBlock = some g → (p < N ∧ (S p).v.ownBlock = some g) ∨ ∀ j, j < N → j ≠ p → (S j).v.ownBlock ≠ some g) : Spots w B N (putS S p s) := by
  have hk : ∀ g j, j < N → j ≠ p → s.v.ownBlock = some g → (S j).v.ownBlock ≠ some g := fun g j hj hjp hg => by
    rcases hat g hg with ⟨h1, h2⟩ | h1
    · exact h.dis p j g h1 hj (fun e => hjp e.symm) h2
    · exact h1 j hj hjp
  refine ⟨fun j hj => ?_, fun i j g hi hj hij hg => ?_⟩
  · by_cases e : j = p
    · rw [e, putS_same]; exact hown
    · rw [putS_ne e]; exact h.own j hj
  · by_cases ei : i = p
    · rw [ei, putS_same] at hg
      rw [putS_ne (fun e => hij (ei.trans e.symm))]
      exact hk g j hj (fun e => hij (ei.trans e.symm)) hg
    · rw [putS_ne ei] at hg
      by_cases ej : j = p
      · rw [ej, putS_same]
        exact fun e => hk g i hi ei e hg
      · rw [putS_ne ej]
        exact h.dis i j g hi hj hij hg
/-- A row that has grown. -/
theorem Spots.app (h : Spots w B N S) {p : Nat} (hp : p < N) (s : Spot) (hown : s.owned w' B) (hg : w.grownBy w' (S p).v.ownBlock) (hat : s.v.ownBlock = (S p).v.ownBlock ∨ s.v.ownBlock = some w.heap.size) : Spots w' B N (putS S p s) := by
  refine ⟨fun j hj => ?_, fun i j g hi hj hij hgi => ?_⟩
  · by_cases e : j = p
    · rw [e, putS_same]; exact hown
    · rw [putS_ne e]
      exact own_other (h.own j hj) hg (fun g hgj hgp => h.dis j p g hj hp e hgj hgp)
  · by_cases ei : i = p
    · rw [ei, putS_same] at hgi
      have ej : j ≠ p := fun e => hij (ei.trans e.symm)
      rw [putS_ne ej]
      rcases hat with hat | hat
      · exact h.dis p j g hp hj (fun e => ej e.symm) (hat ▸ hgi)
      · rw [hat] at hgi
        injection hgi with hgi
        intro hgj
        have := (h.lt hj _ hgj).2
        omega
    · rw [putS_ne ei] at hgi
      by_cases ej : j = p
      · rw [ej, putS_same]
        rcases hat with hat | hat
        · rw [hat]; exact h.dis i p g hi hp ei hgi
        · rw [hat]
          intro hgj
          injection hgj with hgj
          have := (h.lt hi _ hgi).2
          omega
      · rw [putS_ne ej]
        exact h.dis i j g hi hj hij hgi
/-- One row more. -/
theorem Spots.add (h : Spots w B N S) (s : Spot) (hown : s.owned w B) (hat : ∀ g, s.v.ownBlock = some g → ∀ j, j < N → (S j).v.ownBlock ≠ some g) : Spots w B (N + 1) (putS S N s) := by
  refine ⟨fun j hj => ?_, fun i j g hi hj hij hg => ?_⟩
  · by_cases e : j = N
    · rw [e, putS_same]; exact hown
    · rw [putS_ne e]; exact h.own j (by omega)
  · by_cases ei : i = N
    · rw [ei, putS_same] at hg
      rw [putS_ne (fun e => hij (ei.trans e.symm))]
      exact hat g hg j (by omega)
    · rw [putS_ne ei] at hg
      by_cases ej : j = N
      · rw [ej, putS_same]
        exact fun e => hat g e i (by omega) hg
      · rw [putS_ne ej]
        exact h.dis i j g (by omega) (by omega) hij hg
theorem Spots.addNone (h : Spots w B N S) (E : TypeId) (sz : Nat) : Spots w B (N + 1) (putS S N (Spot.none_ E sz)) :=
  h.add _ (World.ownsRow_nil _ _ _ _) (fun g hg => by cases hg)
theorem Spots.putNone (h : Spots w B N S) (p : Nat) (E : TypeId) (sz : Nat) : Spots w B N (putS S p (Spot.none_ E sz)) :=
  h.put p _ (World.ownsRow_nil _ _ _ _) (fun g hg => by cases hg)
/-- A row of a world that only grew. -/
theorem Spots.putNew (h : Spots w B N S) (hb : Below w.heap.size w w') (p : Nat) (s : Spot) (hown : s.owned w' w.heap.size) (hB : B ≤ w.heap.size) : Spots w' B N (putS S p s) := by
  refine (h.below hb).put p s ⟨hown.1, ?_⟩ (fun g hg => .inr fun j hj _ e => ?_)
  · rcases hown.2 with h2 | ⟨g, cap, cur, hv, h3, h4⟩
    · exact .inl h2
    · exact .inr ⟨g, cap, cur, hv, by omega, h4⟩
  · have h1 := (World.ownsRow.lt hown g hg).1
    have h2 := (h.lt hj _ e).2
    omega
/-- A cell of one row that is written. -/
theorem Spots.setCell (h : Spots w B N S) {p g i : Nat} (hp : p < N) (hg : (S p).v.ownBlock = some g) (u : Value) (hi : i < (S p).n * (S p).sz) : Spots (w.setCell ⟨g, i, none⟩ u) B N (putS S p { S p with xs := (S p).xs.set i u }) := by
  refine ⟨fun j hj => ?_, fun a b k ha hb hab hk => ?_⟩
  · by_cases e : j = p
    · rw [e, putS_same]
      have h1 := h.own p hp
      refine ⟨by show (List.set _ _ _).length = _; rw [List.length_set]; exact h1.1, ?_⟩
      rcases h1.2 with ⟨h2, h3⟩ | ⟨g', cap, cur, hv, hb, hh, hn, hc, hs, hx⟩
      · rw [h2] at hg; cases hg
      · rw [hv] at hg
        injection hg with hg
        simp only at hg
        subst hg
        have hle : (S p).n * (S p).sz ≤ cap * (S p).sz := Nat.mul_le_mul_right _ hn
        refine .inr ⟨g', cap, cur.setIfInBounds i u, hv, hb, heap_setCell_same w g' i cur _ u hh, hn, hc, by simpa using hs, ?_⟩
        show (cur.setIfInBounds i u).toList.take ((S p).n * (S p).sz) = (S p).xs.set i u
        rw [Array.toList_setIfInBounds, List.take_set, hx]
    · rw [putS_ne e]
      exact own_far (h.own j hj) (fun e' => h.dis j p g hj hp e e' hg) u
  · have hv : ∀ j, (putS S p { S p with xs := (S p).xs.set i u } j).v = (S j).v := fun j => by
      by_cases e : j = p
      · rw [e, putS_same]
      · rw [putS_ne e]
    rw [hv] at hk ⊢
    exact h.dis a b k ha hb hab hk
/-- A cell that is no row's is written. -/
theorem Spots.far (h : Spots w B N S) {p : Addr} (hp : p.block < B) (u : Value) : Spots (w.setCell p u) B N S :=
  ⟨fun j hj => own_far (h.own j hj) (fun e => by have := (h.lt hj _ e).1; omega) u, h.dis⟩
end

/-- Where a row stands, as a window of at most one block. -/
def Spot.lo (s : Spot) (B : Nat) : Nat := s.v.ownBlock.getD B
def Spot.hi (s : Spot) (B : Nat) : Nat := match s.v.ownBlock with | some g => g + 1 | none => B
theorem Spots.owc {w : World} {B N : Nat} {S : Nat → Spot} (h : Spots w B N S) {j : Nat} (hj : j < N) : OwC w ((S j).lo B) ((S j).hi B) (S j).E (S j).sz (S j).v (S j).n (S j).xs := by
  have h1 := h.own j hj
  refine ⟨h1.1, ?_⟩
  rcases h1.2 with ⟨h2, h3⟩ | ⟨g, cap, cur, hv, hb, hh, h3⟩
  · exact .inl ⟨h3, none, 0, h2⟩
  · refine .inr ⟨g, cap, cur, hv, ?_, ?_, hh, h3⟩
    · unfold Spot.lo; rw [hv]; exact Nat.le_refl g
    · unfold Spot.hi; rw [hv]; exact Nat.lt_succ_self g
theorem Spots.window {w : World} {B N : Nat} {S : Nat → Spot} (h : Spots w B N S) (hB : B ≤ w.heap.size) {j : Nat} (hj : j < N) : B ≤ (S j).lo B ∧ (S j).hi B ≤ w.heap.size := by
  have h1 := h.lt hj
  unfold Spot.lo Spot.hi
  cases hv : (S j).v.ownBlock with
  | none => exact ⟨Nat.le_refl _, hB⟩
  | some g => have := h1 g hv; exact ⟨this.1, this.2⟩
theorem Spots.apart {w : World} {B N : Nat} {S : Nat → Spot} (h : Spots w B N S) {i j : Nat} (hi : i < N) (hj : j < N) (hij : i ≠ j) : (S i).hi B ≤ (S j).lo B ∨ (S j).hi B ≤ (S i).lo B := by
  unfold Spot.lo Spot.hi
  cases hv : (S i).v.ownBlock with
  | none =>
    cases hu : (S j).v.ownBlock with
    | none => exact .inl (Nat.le_refl _)
    | some g => have := (h.lt hj g hu).1; exact .inl this
  | some g =>
    have h1 := (h.lt hi g hv).1
    cases hu : (S j).v.ownBlock with
    | none => exact .inr h1
    | some k =>
      have : g ≠ k := fun e => h.dis i j g hi hj hij hv (by rw [hu, e])
      simp only [Option.getD_some]
      omega

end Go.Proofs.Ytfeonaocmnpkcaa

/-
  Permutation braids as plain data: lists of permutations, letters that move to the left, and why the end of all moves is one.
-/
namespace Go.Proofs.Ytfeonaocmnpkcaa
set_option linter.unusedVariables false
set_option linter.unusedSimpArgs false

/-- A permutation and its inverse, by functions. -/
structure Pm where
  f : Nat → Nat
  g : Nat → Nat
  fg : ∀ i, f (g i) = i
  gf : ∀ i, g (f i) = i
namespace Pm
theorem ext' {p q : Pm} (h : ∀ i, p.f i = q.f i) : p = q := by
  have hf : p.f = q.f := funext h
  have hg : p.g = q.g := funext fun i => by
    have h1 : p.f (p.g i) = p.f (q.g i) := by rw [p.fg, h, q.fg]
    have h2 := congrArg p.g h1
    rwa [p.gf, p.gf] at h2
  obtain ⟨f, g, a, b⟩ := p
  obtain ⟨f', g', a', b'⟩ := q
  simp only at hf hg
  subst hf hg
  rfl
theorem f_inj (p : Pm) {i j : Nat} (h : p.f i = p.f j) : i = j := by have := congrArg p.g h; rwa [p.gf, p.gf] at this
theorem g_inj (p : Pm) {i j : Nat} (h : p.g i = p.g j) : i = j := by have := congrArg p.f h; rwa [p.fg, p.fg] at this
/-- The exchange of k - 1 and k. -/
def sw (k i : Nat) : Nat := if i = k then k - 1 else if i + 1 = k then k else i
theorem sw_sw {k : Nat} (hk : 1 ≤ k) (i : Nat) : sw k (sw k i) = i := by unfold sw; split <;> (try split) <;> (try split) <;> (try split) <;> omega
theorem sw_l {k : Nat} (hk : 1 ≤ k) : sw k (k - 1) = k := by unfold sw; rw [if_neg (by omega), if_pos (by omega)]
theorem sw_r (k : Nat) : sw k k = k - 1 := by simp [sw]
theorem sw_o {k i : Nat} (h1 : i ≠ k) (h2 : i + 1 ≠ k) : sw k i = i := by unfold sw; rw [if_neg h1, if_neg h2]
/-- A letter in front, and behind. -/
def before (k : Nat) (p : Pm) (hk : 1 ≤ k) : Pm := ⟨fun i => p.f (sw k i), fun i => sw k (p.g i), fun i => by simp only [sw_sw hk, p.fg], fun i => by simp only [p.gf, sw_sw hk]⟩
def behind (p : Pm) (k : Nat) (hk : 1 ≤ k) : Pm := ⟨fun i => sw k (p.f i), fun i => p.g (sw k i), fun i => by simp only [p.fg, sw_sw hk], fun i => by simp only [sw_sw hk, p.gf]⟩
def one : Pm := ⟨id, id, fun _ => rfl, fun _ => rfl⟩
/-- k is a letter with which q can begin; with which p can end. -/
def start (k : Nat) (q : Pm) : Prop := q.f k < q.f (k - 1)
def fin (k : Nat) (p : Pm) : Prop := p.g k < p.g (k - 1)
instance (k : Nat) (p : Pm) : Decidable (start k p) := by unfold start; infer_instance
instance (k : Nat) (p : Pm) : Decidable (fin k p) := by unfold fin; infer_instance
/-- It moves nothing from n on. -/
def On (n : Nat) (p : Pm) : Prop := ∀ i, n ≤ i → p.f i = i
theorem On.g {n : Nat} {p : Pm} (h : On n p) {i : Nat} (hi : n ≤ i) : p.g i = i := by
  have h1 := congrArg p.g (h i hi)
  rw [p.gf] at h1
  exact h1.symm
theorem On.lt {n : Nat} {p : Pm} (h : On n p) {i : Nat} (hi : i < n) : p.f i < n := by
  rcases Nat.lt_or_ge (p.f i) n with h1 | h1
  · exact h1
  · have h2 := p.f_inj (h _ h1)
    omega
theorem On.glt {n : Nat} {p : Pm} (h : On n p) {i : Nat} (hi : i < n) : p.g i < n := by
  rcases Nat.lt_or_ge (p.g i) n with h1 | h1
  · exact h1
  · have h2 := h _ h1
    rw [p.fg] at h2
    omega
theorem on_one (n : Nat) : On n one := fun _ _ => rfl
theorem On.before {n k : Nat} {p : Pm} (h : On n p) (hk : 1 ≤ k) (hn : k < n) : On n (p.before k hk) := fun i hi => by
  show p.f (sw k i) = i
  rw [sw_o (by omega) (by omega)]
  exact h i hi
theorem On.behind {n k : Nat} {p : Pm} (h : On n p) (hk : 1 ≤ k) (hn : k < n) : On n (p.behind k hk) := fun i hi => by
  show sw k (p.f i) = i
  rw [h i hi, sw_o (by omega) (by omega)]
/-- Without a letter to begin with it is the identity. -/
theorem one_of {n : Nat} {p : Pm} (h : On n p) (hs : ∀ k, 1 ≤ k → k < n → ¬ start k p) : p = one := by
  have hm : ∀ i, i + 1 < n → p.f i < p.f (i + 1) := fun i hi => by
    have h1 := hs (i + 1) (by omega) hi
    unfold start at h1
    rw [Nat.add_sub_cancel] at h1
    rcases Nat.lt_or_ge (p.f i) (p.f (i + 1)) with h2 | h2
    · exact h2
    · have h3 : p.f (i + 1) = p.f i := by omega
      have := p.f_inj h3
      omega
  have hge : ∀ i, i < n → i ≤ p.f i := by
    intro i
    induction i with
    | zero => intro _; omega
    | succ i ih => intro hi; have := ih (by omega); have := hm i hi; omega
  have hle : ∀ d i, i + d + 1 = n → p.f i ≤ i := by
    intro d
    induction d with
    | zero => intro i hi; have := h.lt (show i < n by omega); omega
    | succ d ih => intro i hi; have := ih (i + 1) (by omega); have := hm i (by omega); omega
  refine ext' fun i => ?_
  show p.f i = i
  rcases Nat.lt_or_ge i n with hi | hi
  · have := hge i hi; have := hle (n - i - 1) i (by omega); omega
  · exact h i hi
/-- The half twist. -/
def dl (n i : Nat) : Nat := if i < n then n - 1 - i else i
theorem dl_dl (n i : Nat) : dl n (dl n i) = i := by unfold dl; split <;> (try split) <;> omega
def half (n : Nat) : Pm := ⟨dl n, dl n, dl_dl n, dl_dl n⟩
def flip (n : Nat) (p : Pm) : Pm := ⟨fun i => dl n (p.f (dl n i)), fun i => dl n (p.g (dl n i)), fun i => by simp only [dl_dl, p.fg], fun i => by simp only [dl_dl, p.gf]⟩
theorem flip_flip (n : Nat) (p : Pm) : flip n (flip n p) = p := ext' fun i => by show dl n (dl n (p.f (dl n (dl n i)))) = p.f i; rw [dl_dl, dl_dl]
theorem on_half (n : Nat) : On n (half n) := fun i hi => by show dl n i = i; unfold dl; rw [if_neg (by omega)]
theorem On.flip {n : Nat} {p : Pm} (h : On n p) : On n (flip n p) := fun i hi => by
  show dl n (p.f (dl n i)) = i
  rw [on_half n i hi |> (fun e : dl n i = i => e), h i hi]
  exact on_half n i hi
theorem dl_lt {n i : Nat} (h : i < n) : dl n i = n - 1 - i := by unfold dl; rw [if_pos h]
theorem half_start {n k : Nat} (hk : 1 ≤ k) (hn : k < n) : start k (half n) := by
  show dl n k < dl n (k - 1)
  rw [dl_lt hn, dl_lt (by omega)]; omega
theorem half_fin {n k : Nat} (hk : 1 ≤ k) (hn : k < n) : fin k (half n) := half_start hk hn
theorem one_start (k : Nat) (hk : 1 ≤ k) : ¬ start k one := by show ¬ (k < k - 1); omega
theorem one_fin (k : Nat) (hk : 1 ≤ k) : ¬ fin k one := one_start k hk
/-- What ends with every letter is the half twist. -/
theorem half_of {n : Nat} {p : Pm} (h : On n p) (hs : ∀ k, 1 ≤ k → k < n → fin k p) : p = half n := by
  -- p.g read backwards is the identity
  have h1 : (⟨fun i => p.g (dl n i), fun i => dl n (p.f i), fun i => by simp only [dl_dl, p.gf], fun i => by simp only [p.fg, dl_dl]⟩ : Pm) = one := by
    refine one_of (n := n) (fun i hi => ?_) (fun k hk hn => ?_)
    · show p.g (dl n i) = i
      have e : dl n i = i := on_half n i hi
      rw [e, h.g hi]
    · show ¬ (p.g (dl n k) < p.g (dl n (k - 1)))
      have h2 := hs (n - k) (by omega) (by omega)
      unfold fin at h2
      rw [dl_lt hn, dl_lt (by omega)]
      have e1 : n - 1 - k = n - k - 1 := by omega
      have e2 : n - 1 - (k - 1) = n - k := by omega
      rw [e1, e2]
      omega
  refine ext' fun i => ?_
  have h2 := congrArg Pm.g h1
  have h3 := congrFun h2 i
  have h4 : dl n (p.f i) = i := h3
  have h5 := congrArg (dl n) h4
  rw [dl_dl] at h5
  exact h5

/-! ### Letters and moves -/
theorem fin_before {k l : Nat} {q : Pm} (hk : 1 ≤ k) (hl : 1 ≤ l) (hs : start k q) (hf : fin l (q.before k hk)) : fin l q := by
  unfold fin at hf ⊢
  have hf' : sw k (q.g l) < sw k (q.g (l - 1)) := hf
  unfold start at hs
  by_cases h1 : q.g (l - 1) = k - 1 ∧ q.g l = k
  · obtain ⟨a, b⟩ := h1
    have ea : q.f (k - 1) = l - 1 := by rw [← a, q.fg]
    have eb : q.f k = l := by rw [← b, q.fg]
    omega
  · have hne : q.g l ≠ q.g (l - 1) := fun e => by have := q.g_inj e; omega
    unfold sw at hf'
    split at hf' <;> (try split at hf') <;> (try split at hf') <;> (try split at hf') <;> omega
theorem start_behind {k l : Nat} {q : Pm} (hk : 1 ≤ k) (hl : 1 ≤ l) (hs : start k q) (hf : ¬ fin l q) : start k (q.behind l hl) := by
  unfold start at hs ⊢
  show sw l (q.f k) < sw l (q.f (k - 1))
  unfold fin at hf
  by_cases h1 : q.f k = l - 1 ∧ q.f (k - 1) = l
  · obtain ⟨a, b⟩ := h1
    have ea : q.g (l - 1) = k := by rw [← a, q.gf]
    have eb : q.g l = k - 1 := by rw [← b, q.gf]
    omega
  · unfold sw
    split <;> (try split) <;> (try split) <;> (try split) <;> omega
end Pm

/-- One letter moves from a factor to the one before it. -/
inductive Mv (n : Nat) : List Pm → List Pm → Prop
  | here {p q : Pm} {L : List Pm} (k : Nat) (hk : 1 ≤ k) (hn : k < n) (hs : q.start k) (hf : ¬ p.fin k) : Mv n (p :: q :: L) (p.behind k hk :: q.before k hk :: L)
  | cons {p : Pm} {L L' : List Pm} (h : Mv n L L') : Mv n (p :: L) (p :: L')
inductive Rch (n : Nat) : List Pm → List Pm → Prop
  | refl {L : List Pm} : Rch n L L
  | head {L L1 L2 : List Pm} (h : Mv n L L1) (h2 : Rch n L1 L2) : Rch n L L2
namespace Rch
variable {n : Nat} {L L1 L2 L3 : List Pm}
theorem one (h : Mv n L L1) : Rch n L L1 := .head h .refl
theorem trans (h : Rch n L1 L2) (k : Rch n L2 L3) : Rch n L1 L3 := by
  induction h with
  | refl => exact k
  | head h _ ih => exact .head h (ih k)
theorem cons (p : Pm) (h : Rch n L1 L2) : Rch n (p :: L1) (p :: L2) := by
  induction h with
  | refl => exact .refl
  | head h _ ih => exact .head (.cons h) ih
theorem appL (A : List Pm) (h : Rch n L1 L2) : Rch n (A ++ L1) (A ++ L2) := by
  induction A with
  | nil => exact h
  | cons a A ih => exact ih.cons a
theorem _root_.Go.Proofs.Ytfeonaocmnpkcaa.Mv.appR (h : Mv n L1 L2) (B : List Pm) : Mv n (L1 ++ B) (L2 ++ B) := by
  induction h with
  | here k hk hn hs hf => exact .here k hk hn hs hf
  | cons _ ih => exact .cons ih
theorem appR (h : Rch n L1 L2) (B : List Pm) : Rch n (L1 ++ B) (L2 ++ B) := by
  induction h with
  | refl => exact .refl
  | head h _ ih => exact .head (h.appR B) ih
end Rch
/-- No letter can move. -/
def Sett (n : Nat) (L : List Pm) : Prop := ∀ L', ¬ Mv n L L'
theorem sett_nil (n : Nat) : Sett n [] := fun L' h => by cases h
theorem sett_single (n : Nat) (p : Pm) : Sett n [p] := fun L' h => by
  cases h with
  | cons h => cases h
theorem sett_cons {n : Nat} {p q : Pm} {L : List Pm} : Sett n (p :: q :: L) ↔ (∀ k, 1 ≤ k → k < n → q.start k → p.fin k) ∧ Sett n (q :: L) := by
  constructor
  · intro h
    exact ⟨fun k hk hn hs => Classical.byContradiction fun hf => h _ (.here k hk hn hs hf), fun L' hm => h _ (.cons hm)⟩
  · rintro ⟨h1, h2⟩ L' hm
    cases hm with
    | here k hk hn hs hf => exact hf (h1 k hk hn hs)
    | cons hm => exact h2 _ hm
def AllOn (n : Nat) (L : List Pm) : Prop := ∀ p ∈ L, p.On n
theorem AllOn.mv {n : Nat} {L L' : List Pm} (h : AllOn n L) (hm : Mv n L L') : AllOn n L' := by
  induction hm with
  | here k hk hn hs hf =>
    intro p hp
    rcases List.mem_cons.1 hp with rfl | hp
    · exact (h _ List.mem_cons_self).behind hk hn
    · rcases List.mem_cons.1 hp with rfl | hp
      · exact (h _ (by simp)).before hk hn
      · exact h p (by simp [hp])
  | cons hm ih =>
    intro p hp
    rcases List.mem_cons.1 hp with rfl | hp
    · exact h _ List.mem_cons_self
    · exact ih (fun q hq => h q (List.mem_cons_of_mem _ hq)) p hp
theorem AllOn.rch {n : Nat} {L L' : List Pm} (h : AllOn n L) (hm : Rch n L L') : AllOn n L' := by
  induction hm with
  | refl => exact h
  | head hm _ ih => exact ih (h.mv hm)

/-! ### A measure -/
def phi (n : Nat) (p : Pm) : Nat := ((List.range n).map fun i => i * p.f i).sum
theorem sum_range_succ (F : Nat → Nat) (n : Nat) : ((List.range (n + 1)).map F).sum = ((List.range n).map F).sum + F n := by
  rw [List.range_succ, List.map_append, List.sum_append]; simp
theorem sum_same {F G : Nat → Nat} : ∀ n, (∀ i, i < n → F i = G i) → ((List.range n).map F).sum = ((List.range n).map G).sum
  | 0, _ => rfl
  | n + 1, h => by rw [sum_range_succ, sum_range_succ, sum_same n (fun i hi => h i (by omega)), h n (by omega)]
theorem sum_two {F G : Nat → Nat} {k : Nat} (hk : 1 ≤ k) : ∀ n, k < n → (∀ i, i ≠ k → i + 1 ≠ k → F i = G i) →
    ((List.range n).map F).sum + G (k - 1) + G k = ((List.range n).map G).sum + F (k - 1) + F k
  | 0, h, _ => by omega
  | n + 1, h, hFG => by
    rw [sum_range_succ, sum_range_succ]
    by_cases hkn : k = n
    · subst hkn
      obtain ⟨j, rfl⟩ : ∃ j, k = j + 1 := ⟨k - 1, by omega⟩
      rw [sum_range_succ, sum_range_succ, sum_same j (fun i hi => hFG i (by omega) (by omega))]
      simp only [Nat.add_sub_cancel]
      omega
    · have ih := sum_two hk n (by omega) hFG
      have := hFG n (by omega) (by omega)
      omega
theorem phi_before {n k : Nat} {q : Pm} (hk : 1 ≤ k) (hn : k < n) (hs : q.start k) : phi n q < phi n (q.before k hk) := by
  have h := sum_two (F := fun i => i * (q.before k hk).f i) (G := fun i => i * q.f i) hk n hn (fun i h1 h2 => by
    show i * q.f (Pm.sw k i) = i * q.f i
    rw [Pm.sw_o h1 h2])
  have e1 : (q.before k hk).f (k - 1) = q.f k := by show q.f (Pm.sw k (k - 1)) = q.f k; rw [Pm.sw_l hk]
  have e2 : (q.before k hk).f k = q.f (k - 1) := by show q.f (Pm.sw k k) = q.f (k - 1); rw [Pm.sw_r]
  simp only [e1, e2] at h
  unfold Pm.start at hs
  unfold phi
  obtain ⟨j, rfl⟩ : ∃ j, k = j + 1 := ⟨k - 1, by omega⟩
  simp only [Nat.add_sub_cancel, Nat.add_mul, Nat.one_mul] at h hs ⊢
  have : j * q.f (j + 1) + (j + 1) * q.f j ≤ j * q.f (j + 1) + (j + 1) * q.f j := Nat.le_refl _
  omega
def big (n : Nat) : Nat := n * (n * n) + 1
theorem phi_lt {n : Nat} {p : Pm} (h : p.On n) : phi n p < big n := by
  have : ∀ m, m ≤ n → ((List.range m).map fun i => i * p.f i).sum ≤ m * (n * n) := by
    intro m
    induction m with
    | zero => intro _; simp
    | succ m ih =>
      intro hm
      rw [sum_range_succ, Nat.succ_mul]
      have h1 := ih (by omega)
      have h2 : m * p.f m ≤ n * n := Nat.mul_le_mul (by omega) (by have := h.lt (show m < n by omega); omega)
      omega
  have h1 := this n (Nat.le_refl _)
  unfold phi big
  omega
def mes (n : Nat) : List Pm → Nat
  | [] => 0
  | p :: L => (big n - phi n p) + (big n + 1) * mes n L
theorem mes_mv {n : Nat} {L L' : List Pm} (h : AllOn n L) (hm : Mv n L L') : mes n L' < mes n L := by
  induction hm with
  | here k hk hn hs hf =>
    rename_i p q L
    have h1 := phi_before hk hn hs
    have h2 := phi_lt ((h q (by simp)).before hk hn)
    simp only [mes]
    have h3 : big n - phi n (q.before k hk) + 1 ≤ big n - phi n q := by omega
    have h4 : (big n + 1) * ((big n - phi n (q.before k hk)) + (big n + 1) * mes n L) + (big n + 1) ≤ (big n + 1) * ((big n - phi n q) + (big n + 1) * mes n L) := by
      have : (big n + 1) * (((big n - phi n (q.before k hk)) + (big n + 1) * mes n L) + 1) ≤ (big n + 1) * ((big n - phi n q) + (big n + 1) * mes n L) := Nat.mul_le_mul_left _ (by omega)
      rw [Nat.mul_add _ _ 1, Nat.mul_one] at this
      exact this
    omega
  | cons hm ih =>
    rename_i p L L'
    have h1 := ih (fun q hq => h q (List.mem_cons_of_mem _ hq))
    simp only [mes]
    have : (big n + 1) * mes n L' < (big n + 1) * mes n L := Nat.mul_lt_mul_of_pos_left h1 (by unfold big; omega)
    omega
/-- All moves end. -/
theorem sett_ex {n : Nat} : ∀ (m : Nat) (L : List Pm), mes n L ≤ m → AllOn n L → ∃ N, Rch n L N ∧ Sett n N := by
  intro m
  induction m with
  | zero =>
    intro L hm h
    refine ⟨L, .refl, fun L' h' => ?_⟩
    have := mes_mv h h'
    omega
  | succ m ih =>
    intro L hm h
    by_cases hs : Sett n L
    · exact ⟨L, .refl, hs⟩
    · obtain ⟨L', h'⟩ : ∃ L', Mv n L L' := Classical.byContradiction fun hn => hs fun L' h' => hn ⟨L', h'⟩
      obtain ⟨N, h1, h2⟩ := ih L' (by have := mes_mv h h'; omega) (h.mv h')
      exact ⟨N, .head h' h1, h2⟩

/-! ### Two moves meet again -/
open Pm in
theorem join_same {n k l : Nat} {p q : Pm} {L : List Pm} (hk : 1 ≤ k) (hkn : k < n) (hks : q.start k) (hkf : ¬ p.fin k) (hl : 1 ≤ l) (hln : l < n) (hls : q.start l) (hlf : ¬ p.fin l) (hkl : k < l) :
    ∃ J, Rch n (p.behind k hk :: q.before k hk :: L) J ∧ Rch n (p.behind l hl :: q.before l hl :: L) J := by
  unfold Pm.start at hks hls
  unfold Pm.fin at hkf hlf
  have hpk : p.g (k - 1) < p.g k := by
    rcases Nat.lt_or_ge (p.g (k - 1)) (p.g k) with h | h
    · exact h
    · have : p.g k = p.g (k - 1) := by omega
      have := p.g_inj this
      omega
  have hpl : p.g (l - 1) < p.g l := by
    rcases Nat.lt_or_ge (p.g (l - 1)) (p.g l) with h | h
    · exact h
    · have : p.g l = p.g (l - 1) := by omega
      have := p.g_inj this
      omega
  by_cases h2 : k + 1 < l
  · -- the letters lie apart
    refine ⟨(p.behind k hk).behind l hl :: (q.before k hk).before l hl :: L, .one (.here l hl hln ?_ ?_), ?_⟩
    · show q.f (sw k l) < q.f (sw k (l - 1))
      rw [sw_o (by omega) (by omega), sw_o (by omega) (by omega)]
      exact hls
    · show ¬ (p.g (sw k l) < p.g (sw k (l - 1)))
      rw [sw_o (by omega) (by omega), sw_o (by omega) (by omega)]
      omega
    · have e1 : (p.behind k hk).behind l hl = (p.behind l hl).behind k hk := ext' fun i => by
        show sw l (sw k (p.f i)) = sw k (sw l (p.f i))
        unfold sw
        split <;> (try split) <;> (try split) <;> (try split) <;> (try split) <;> (try split) <;> omega
      have e2 : (q.before k hk).before l hl = (q.before l hl).before k hk := ext' fun i => by
        show q.f (sw k (sw l i)) = q.f (sw l (sw k i))
        congr 1
        unfold sw
        split <;> (try split) <;> (try split) <;> (try split) <;> (try split) <;> (try split) <;> omega
      rw [e1, e2]
      refine .one (.here k hk hkn ?_ ?_)
      · show q.f (sw l k) < q.f (sw l (k - 1))
        rw [sw_o (by omega) (by omega), sw_o (by omega) (by omega)]
        exact hks
      · show ¬ (p.g (sw l k) < p.g (sw l (k - 1)))
        rw [sw_o (by omega) (by omega), sw_o (by omega) (by omega)]
        omega
  · -- neighbours
    obtain rfl : l = k + 1 := by omega
    simp only [Nat.add_sub_cancel] at hls hpl
    have a1 : sw k (k + 1) = k + 1 := sw_o (by omega) (by omega)
    have a2 : sw k k = k - 1 := sw_r k
    have a3 : sw k (k - 1) = k := sw_l hk
    have b1 : sw (k + 1) (k + 1) = k := sw_r (k + 1)
    have b2 : sw (k + 1) k = k + 1 := sw_l hl
    have b3 : sw (k + 1) (k - 1) = k - 1 := sw_o (by omega) (by omega)
    refine ⟨((p.behind k hk).behind (k + 1) hl).behind k hk :: ((q.before k hk).before (k + 1) hl).before k hk :: L, ?_, ?_⟩
    · refine .head (.here (k + 1) hl hln ?_ ?_) (.one (.here k hk hkn ?_ ?_))
      · show q.f (sw k (k + 1)) < q.f (sw k (k + 1 - 1))
        rw [Nat.add_sub_cancel, a1, a2]; omega
      · show ¬ (p.g (sw k (k + 1)) < p.g (sw k (k + 1 - 1)))
        rw [Nat.add_sub_cancel, a1, a2]; omega
      · show q.f (sw k (sw (k + 1) k)) < q.f (sw k (sw (k + 1) (k - 1)))
        rw [b2, b3, a1, a3]; omega
      · show ¬ (p.g (sw k (sw (k + 1) k)) < p.g (sw k (sw (k + 1) (k - 1))))
        rw [b2, b3, a1, a3]; omega
    · have e1 : ((p.behind k hk).behind (k + 1) hl).behind k hk = ((p.behind (k + 1) hl).behind k hk).behind (k + 1) hl := ext' fun i => by
        show sw k (sw (k + 1) (sw k (p.f i))) = sw (k + 1) (sw k (sw (k + 1) (p.f i)))
        generalize p.f i = x
        rcases Nat.lt_trichotomy x (k - 1) with h | h | h
        · rw [sw_o (k := k) (i := x) (by omega) (by omega), sw_o (k := k + 1) (i := x) (by omega) (by omega), sw_o (k := k) (i := x) (by omega) (by omega), sw_o (k := k + 1) (i := x) (by omega) (by omega)]
        · subst h; rw [a3, b2, a1, b3, a3, b2]
        · by_cases h3 : x = k
          · subst h3; rw [a2, b3, a3, b2, a1, b1]
          · by_cases h4 : x = k + 1
            · subst h4; rw [a1, b1, a2, b3]
            · rw [sw_o (k := k) (i := x) (by omega) (by omega), sw_o (k := k + 1) (i := x) (by omega) (by omega), sw_o (k := k) (i := x) (by omega) (by omega), sw_o (k := k + 1) (i := x) (by omega) (by omega)]
      have e2 : ((q.before k hk).before (k + 1) hl).before k hk = ((q.before (k + 1) hl).before k hk).before (k + 1) hl := ext' fun i => by
        show q.f (sw k (sw (k + 1) (sw k i))) = q.f (sw (k + 1) (sw k (sw (k + 1) i)))
        congr 1
        generalize i = x
        rcases Nat.lt_trichotomy x (k - 1) with h | h | h
        · rw [sw_o (k := k) (i := x) (by omega) (by omega), sw_o (k := k + 1) (i := x) (by omega) (by omega), sw_o (k := k) (i := x) (by omega) (by omega), sw_o (k := k + 1) (i := x) (by omega) (by omega)]
        · subst h; rw [a3, b2, a1, b3, a3, b2]
        · by_cases h3 : x = k
          · subst h3; rw [a2, b3, a3, b2, a1, b1]
          · by_cases h4 : x = k + 1
            · subst h4; rw [a1, b1, a2, b3]
            · rw [sw_o (k := k) (i := x) (by omega) (by omega), sw_o (k := k + 1) (i := x) (by omega) (by omega), sw_o (k := k) (i := x) (by omega) (by omega), sw_o (k := k + 1) (i := x) (by omega) (by omega)]
      rw [e1, e2]
      refine .head (.here k hk hkn ?_ ?_) (.one (.here (k + 1) hl hln ?_ ?_))
      · show q.f (sw (k + 1) k) < q.f (sw (k + 1) (k - 1))
        rw [b2, b3]; omega
      · show ¬ (p.g (sw (k + 1) k) < p.g (sw (k + 1) (k - 1)))
        rw [b2, b3]; omega
      · show q.f (sw (k + 1) (sw k (k + 1))) < q.f (sw (k + 1) (sw k (k + 1 - 1)))
        rw [Nat.add_sub_cancel, a1, a2, b1, b3]; omega
      · show ¬ (p.g (sw (k + 1) (sw k (k + 1))) < p.g (sw (k + 1) (sw k (k + 1 - 1))))
        rw [Nat.add_sub_cancel, a1, a2, b1, b3]; omega
open Pm in
theorem behind_before {k l : Nat} (q : Pm) (hk : 1 ≤ k) (hl : 1 ≤ l) : (q.before k hk).behind l hl = (q.behind l hl).before k hk := rfl
open Pm in
theorem join_next {n k : Nat} {p q : Pm} {L L' : List Pm} (hk : 1 ≤ k) (hkn : k < n) (hks : q.start k) (hkf : ¬ p.fin k) (hm : Mv n (q :: L) L') :
    ∃ J, Rch n (p.behind k hk :: q.before k hk :: L) J ∧ Rch n (p :: L') J := by
  cases hm with
  | here l hl hln hls hlf =>
    rename_i r M
    refine ⟨p.behind k hk :: (q.behind l hl).before k hk :: r.before l hl :: M, ?_, .one (.here k hk hkn (start_behind hk hl hks hlf) hkf)⟩
    exact .one (.cons (.here l hl hln hls (fun h => hlf (fin_before hk hl hks h))))
  | cons hm =>
    rename_i M
    exact ⟨p.behind k hk :: q.before k hk :: M, .one (.cons (.cons hm)), .one (.here k hk hkn hks hkf)⟩
theorem join {n : Nat} {L L1 L2 : List Pm} (h1 : Mv n L L1) : Mv n L L2 → ∃ J, Rch n L1 J ∧ Rch n L2 J := by
  intro h2
  induction h1 generalizing L2 with
  | here k hk hn hs hf =>
    cases h2 with
    | here l hl hln hls hlf =>
      rcases Nat.lt_trichotomy k l with h | h | h
      · exact join_same hk hn hs hf hl hln hls hlf h
      · subst h; exact ⟨_, .refl, .refl⟩
      · obtain ⟨J, a, b⟩ := join_same hl hln hls hlf hk hn hs hf h
        exact ⟨J, b, a⟩
    | cons hm => exact join_next hk hn hs hf hm
  | cons hm ih =>
    cases h2 with
    | here l hl hln hls hlf =>
      obtain ⟨J, a, b⟩ := join_next hl hln hls hlf hm
      exact ⟨J, b, a⟩
    | cons hm2 =>
      obtain ⟨J, a, b⟩ := ih hm2
      exact ⟨_, a.cons _, b.cons _⟩
theorem sett_rch {n : Nat} {L N : List Pm} (hs : Sett n L) (h : Rch n L N) : L = N := by
  cases h with
  | refl => rfl
  | head hm _ => exact absurd hm (hs _)
/-- The end of all moves is one. -/
theorem sett_one {n : Nat} : ∀ (m : Nat) (L N1 N2 : List Pm), mes n L ≤ m → AllOn n L → Rch n L N1 → Rch n L N2 → Sett n N1 → Sett n N2 → N1 = N2 := by
  intro m
  induction m with
  | zero =>
    intro L N1 N2 hm h h1 h2 s1 s2
    have hs : Sett n L := fun L' h' => by have := mes_mv h h'; omega
    exact (sett_rch hs h1).symm.trans (sett_rch hs h2)
  | succ m ih =>
    intro L N1 N2 hm h h1 h2 s1 s2
    cases h1 with
    | refl => exact sett_rch s1 h2
    | head m1 r1 =>
      cases h2 with
      | refl => exact (sett_rch s2 (.head m1 r1)).symm
      | head m2 r2 =>
        obtain ⟨J, j1, j2⟩ := join m1 m2
        have hJ := (h.mv m1).rch j1
        obtain ⟨N, n1, n2⟩ := sett_ex (n := n) (mes n J) J (Nat.le_refl _) hJ
        have e1 := ih _ N1 N (by have := mes_mv h m1; omega) (h.mv m1) r1 (j1.trans n1) s1 n2
        have e2 := ih _ N2 N (by have := mes_mv h m2; omega) (h.mv m2) r2 (j2.trans n1) s2 n2
        rw [e1, e2]
theorem sett_uniq {n : Nat} {L N1 N2 : List Pm} (h : AllOn n L) (h1 : Rch n L N1) (h2 : Rch n L N2) (s1 : Sett n N1) (s2 : Sett n N2) : N1 = N2 := sett_one (mes n L) L N1 N2 (Nat.le_refl _) h h1 h2 s1 s2

end Go.Proofs.Ytfeonaocmnpkcaa

/-
  Normal forms of words of letters, as plain data: what the reference's way and the program's way both come to, and when two words have the same.
-/
namespace Go.Proofs.Ytfeonaocmnpkcaa
set_option linter.unusedVariables false
set_option linter.unusedSimpArgs false

namespace Pm
theorem sw_lt {k a b : Nat} (h : a < b) (hne : ¬ (a + 1 = k ∧ b = k)) : sw k a < sw k b := by
  unfold sw
  split <;> (try split) <;> (try split) <;> (try split) <;> omega
theorem sw_bd {k n i : Nat} (hk : 1 ≤ k) (hn : k < n) (hi : i < n) : sw k i < n := by unfold sw; split <;> (try split) <;> omega
end Pm
open Pm

theorem mv_two {n : Nat} {x y : Pm} {L : List Pm} (h : Mv n [x, y] L) : ∃ k, ∃ hk : 1 ≤ k, k < n ∧ y.start k ∧ ¬ x.fin k ∧ L = [x.behind k hk, y.before k hk] := by
  cases h with
  | here k hk hn hs hf => exact ⟨k, hk, hn, hs, hf, rfl⟩
  | cons h =>
    cases h with
    | cons h => cases h
/-- What holds of two factors and is kept by moves holds at the end. -/
theorem rch_two {n : Nat} {x y : Pm} (P : Pm → Pm → Prop) (hP : ∀ x y k (hk : 1 ≤ k), k < n → y.start k → ¬ x.fin k → P x y → P (x.behind k hk) (y.before k hk)) (h0 : P x y) (h : AllOn n [x, y]) :
    ∃ x' y', Rch n [x, y] [x', y'] ∧ (∀ k, 1 ≤ k → k < n → y'.start k → x'.fin k) ∧ P x' y' ∧ (∀ i, y'.f (x'.f i) = y.f (x.f i)) ∧ x'.On n ∧ y'.On n := by
  obtain ⟨N, h1, h2⟩ := sett_ex (n := n) (mes n [x, y]) [x, y] (Nat.le_refl _) h
  have key : ∀ L N, Rch n L N → ∀ x1 y1, L = [x1, y1] → P x1 y1 → ∃ x' y', N = [x', y'] ∧ P x' y' ∧ ∀ i, y'.f (x'.f i) = y1.f (x1.f i) := by
    intro L N h
    induction h with
    | refl => intro x1 y1 e hp; exact ⟨x1, y1, e, hp, fun _ => rfl⟩
    | head hm _ ih =>
      intro x1 y1 e hp
      subst e
      obtain ⟨k, hk, hn, hs, hf, rfl⟩ := mv_two hm
      obtain ⟨x', y', e, hp', hc⟩ := ih _ _ rfl (hP _ _ k hk hn hs hf hp)
      refine ⟨x', y', e, hp', fun i => (hc i).trans ?_⟩
      show y1.f (sw k (sw k (x1.f i))) = _
      rw [sw_sw hk]
  obtain ⟨x', y', rfl, hp, hc⟩ := key _ _ h1 x y rfl h0
  have ha := h.rch h1
  exact ⟨x', y', h1, (sett_cons.1 h2).1, hp, hc, ha x' (by simp), ha y' (by simp)⟩
/-- The factors together have as many crossings as each alone. -/
def Red (x y : Pm) : Prop := ∀ a b, a < b → ¬ (y.f b < y.f a ∧ x.g b < x.g a)
theorem rch_red {n : Nat} {x y z : Pm} (h : AllOn n [x, y]) (hr : Red x y) (hz : ∀ i, z.f i = y.f (x.f i)) : Rch n [x, y] [z, one] := by
  obtain ⟨x', y', h1, h2, h3, h4, h5, h6⟩ := rch_two (n := n) Red (fun x y k hk hn hs hf hr a b hab => by
    rintro ⟨h1, h2⟩
    have h1' : y.f (sw k b) < y.f (sw k a) := h1
    have h2' : x.g (sw k b) < x.g (sw k a) := h2
    by_cases hc : a + 1 = k ∧ b = k
    · obtain ⟨ha, hb⟩ := hc
      subst hb
      obtain rfl : a = b - 1 := by omega
      rw [sw_r, sw_l hk] at h1'
      unfold Pm.start at hs
      omega
    · exact hr _ _ (sw_lt hab hc) ⟨h1', h2'⟩) hr h
  have e1 : y' = one := one_of h6 fun k hk hn hs => h3 (k - 1) k (by omega) ⟨hs, h2 k hk hn hs⟩
  subst e1
  have e2 : x' = z := ext' fun i => by rw [hz, ← h4]; rfl
  rw [← e2]
  exact h1
theorem red_one (y : Pm) : Red one y := fun a b hab h => by have : b < a := h.2; omega
theorem rch_one {n : Nat} {y : Pm} (h : y.On n) : Rch n [one, y] [y, one] :=
  rch_red (by intro p hp; simp at hp; rcases hp with rfl | rfl; exact on_one n; exact h) (red_one y) fun _ => rfl
theorem rch_half {n : Nat} {x : Pm} (h : x.On n) : Rch n [x, half n] [half n, flip n x] := by
  obtain ⟨x', y', h1, h2, h3, h4, h5, h6⟩ := rch_two (n := n) (x := x) (y := half n) (fun x y => ∀ a b, a < b → b < n → x.g a < x.g b → y.f b < y.f a) (fun x y k hk hn hs hf hr a b hab hb hg => by
    have hg' : x.g (sw k a) < x.g (sw k b) := hg
    show y.f (sw k b) < y.f (sw k a)
    by_cases hc : a + 1 = k ∧ b = k
    · obtain ⟨ha, hb⟩ := hc
      subst hb
      obtain rfl : a = b - 1 := by omega
      rw [sw_r, sw_l hk] at hg'
      unfold Pm.fin at hf
      omega
    · exact hr _ _ (sw_lt hab hc) (sw_bd hk hn hb) hg') (fun a b hab hb _ => by
    show dl n b < dl n a
    rw [dl_lt hb, dl_lt (by omega)]; omega) (by intro p hp; simp at hp; rcases hp with rfl | rfl; exact h; exact on_half n)
  have e1 : x' = half n := half_of h5 fun k hk hn => Classical.byContradiction fun hf => hf (h2 k hk hn (h3 (k - 1) k (by omega) hn (by
    unfold Pm.fin at hf
    rcases Nat.lt_or_ge (x'.g (k - 1)) (x'.g k) with h | h
    · exact h
    · have e : x'.g k = x'.g (k - 1) := by omega
      have := x'.g_inj e
      omega)))
  subst e1
  have e2 : y' = flip n x := ext' fun i => by
    have h7 := h4 (dl n i)
    have h8 : y'.f (dl n (dl n i)) = dl n (x.f (dl n i)) := h7
    rw [dl_dl] at h8
    exact h8
  rw [← e2]
  exact h1

/-! ### All flipped -/
theorem dl_sw {n k : Nat} (hk : 1 ≤ k) (hn : k < n) (x : Nat) : dl n (sw k x) = sw (n - k) (dl n x) := by
  unfold dl sw
  split <;> (try split) <;> (try split) <;> (try split) <;> (try split) <;> (try split) <;> omega
theorem flip_behind {n k : Nat} (p : Pm) (hk : 1 ≤ k) (hn : k < n) : flip n (p.behind k hk) = (flip n p).behind (n - k) (by omega) := ext' fun i => by
  show dl n (sw k (p.f (dl n i))) = sw (n - k) (dl n (p.f (dl n i)))
  exact dl_sw hk hn _
theorem flip_before {n k : Nat} (p : Pm) (hk : 1 ≤ k) (hn : k < n) : flip n (p.before k hk) = (flip n p).before (n - k) (by omega) := ext' fun i => by
  show dl n (p.f (sw k (dl n i))) = dl n (p.f (dl n (sw (n - k) i)))
  have h := dl_sw (n := n) (k := n - k) (by omega) (by omega) i
  rw [show n - (n - k) = k by omega] at h
  rw [h]
theorem flip_start {n k : Nat} {q : Pm} (h : q.On n) (hk : 1 ≤ k) (hn : k < n) (hs : q.start k) : (flip n q).start (n - k) := by
  show dl n (q.f (dl n (n - k))) < dl n (q.f (dl n (n - k - 1)))
  rw [dl_lt (show n - k < n by omega), dl_lt (show n - k - 1 < n by omega), show n - 1 - (n - k) = k - 1 by omega, show n - 1 - (n - k - 1) = k by omega]
  have h1 := h.lt (show k < n from hn)
  have h2 := h.lt (show k - 1 < n by omega)
  unfold Pm.start at hs
  rw [dl_lt h1, dl_lt h2]
  omega
theorem flip_fin {n k : Nat} {p : Pm} (h : p.On n) (hk : 1 ≤ k) (hn : k < n) (hf : ¬ p.fin k) : ¬ (flip n p).fin (n - k) := by
  show ¬ (dl n (p.g (dl n (n - k))) < dl n (p.g (dl n (n - k - 1))))
  rw [dl_lt (show n - k < n by omega), dl_lt (show n - k - 1 < n by omega), show n - 1 - (n - k) = k - 1 by omega, show n - 1 - (n - k - 1) = k by omega]
  have h1 := h.glt (show k < n from hn)
  have h2 := h.glt (show k - 1 < n by omega)
  unfold Pm.fin at hf
  rw [dl_lt h1, dl_lt h2]
  omega
def flipL (n : Nat) (L : List Pm) : List Pm := L.map (flip n)
theorem flipL_flipL (n : Nat) (L : List Pm) : flipL n (flipL n L) = L := by
  unfold flipL
  rw [List.map_map]
  conv => rhs; rw [← List.map_id L]
  exact List.map_congr_left fun p _ => flip_flip n p
theorem flipL_append (n : Nat) (A B : List Pm) : flipL n (A ++ B) = flipL n A ++ flipL n B := List.map_append
theorem AllOn.flipL {n : Nat} {L : List Pm} (h : AllOn n L) : AllOn n (flipL n L) := by
  intro p hp
  obtain ⟨q, hq, rfl⟩ := List.mem_map.1 hp
  exact (h q hq).flip
theorem AllOn.append {n : Nat} {A B : List Pm} (h : AllOn n A) (k : AllOn n B) : AllOn n (A ++ B) := fun p hp => (List.mem_append.1 hp).elim (h p) (k p)
theorem AllOn.left {n : Nat} {A B : List Pm} (h : AllOn n (A ++ B)) : AllOn n A := fun p hp => h p (List.mem_append_left _ hp)
theorem AllOn.right {n : Nat} {A B : List Pm} (h : AllOn n (A ++ B)) : AllOn n B := fun p hp => h p (List.mem_append_right _ hp)
theorem AllOn.one {n : Nat} {p : Pm} (h : p.On n) : AllOn n [p] := fun q hq => by simp at hq; subst hq; exact h
theorem Mv.flip {n : Nat} {L L' : List Pm} (h : AllOn n L) (hm : Mv n L L') : Mv n (flipL n L) (flipL n L') := by
  induction hm with
  | here k hk hn hs hf =>
    rename_i p q L
    show Mv n (Pm.flip n p :: Pm.flip n q :: flipL n L) (Pm.flip n (p.behind k hk) :: Pm.flip n (q.before k hk) :: flipL n L)
    rw [flip_behind p hk hn, flip_before q hk hn]
    exact .here (n - k) (by omega) (by omega) (flip_start (h q (by simp)) hk hn hs) (flip_fin (h p (by simp)) hk hn hf)
  | cons hm ih => exact .cons (ih fun q hq => h q (List.mem_cons_of_mem _ hq))
theorem Rch.flip {n : Nat} {L L' : List Pm} (h : AllOn n L) (hm : Rch n L L') : Rch n (flipL n L) (flipL n L') := by
  induction hm with
  | refl => exact .refl
  | head hm _ ih => exact .head (hm.flip h) (ih (h.mv hm))
theorem Sett.flip {n : Nat} {L : List Pm} (h : AllOn n L) (hs : Sett n L) : Sett n (flipL n L) := fun L' hm => by
  have := hm.flip h.flipL
  rw [flipL_flipL] at this
  exact hs _ this
theorem flip_one (n : Nat) : Pm.flip n one = one := ext' fun i => by show dl n (dl n i) = i; exact dl_dl n i
theorem flip_half (n : Nat) : Pm.flip n (half n) = half n := ext' fun i => by show dl n (dl n (dl n i)) = dl n i; rw [dl_dl]

/-! ### The form of what is settled -/
def Good (n : Nat) (F : List Pm) : Prop := ∀ p ∈ F, p ≠ one ∧ p ≠ half n
def nfm (n a : Nat) (F : List Pm) (b : Nat) : List Pm := List.replicate a (half n) ++ (F ++ List.replicate b one)
theorem half_ne {n : Nat} (hn : 2 ≤ n) : half n ≠ one := fun e => by
  have h1 := congrArg (fun p : Pm => p.f 0) e
  have h2 : dl n 0 = 0 := h1
  rw [dl_lt (by omega)] at h2
  omega
theorem ones_of {n : Nat} : ∀ {L : List Pm}, AllOn n L → Sett n (one :: L) → L = List.replicate L.length one
  | [], _, _ => rfl
  | p :: L, h, hs => by
    obtain ⟨h1, h2⟩ := sett_cons.1 hs
    have e : p = one := one_of (h p (by simp)) fun k hk hn hs => one_fin k hk (h1 k hk hn hs)
    subst e
    rw [List.length_cons, List.replicate_succ, ← ones_of (fun q hq => h q (List.mem_cons_of_mem _ hq)) h2]
theorem sett_tail {n : Nat} {p : Pm} {L : List Pm} (h : Sett n (p :: L)) : Sett n L := fun L' hm => h _ (.cons hm)
theorem shape_ex {n : Nat} : ∀ (L : List Pm), AllOn n L → Sett n L → ∃ a F b, L = nfm n a F b ∧ Good n F
  | [], _, _ => ⟨0, [], 0, rfl, fun p hp => by simp at hp⟩
  | p :: L, h, hs => by
    have hL : AllOn n L := fun q hq => h q (List.mem_cons_of_mem _ hq)
    by_cases h1 : p = one
    · subst h1
      refine ⟨0, [], L.length + 1, ?_, fun p hp => by simp at hp⟩
      show one :: L = List.replicate (L.length + 1) one
      rw [List.replicate_succ, ← ones_of hL hs]
    · obtain ⟨a, F, b, rfl, hF⟩ := shape_ex L hL (sett_tail hs)
      by_cases h2 : p = half n
      · subst h2
        exact ⟨a + 1, F, b, by unfold nfm; rw [List.replicate_succ]; rfl, hF⟩
      · refine ⟨0, p :: F, b, ?_, fun q hq => ?_⟩
        · cases a with
          | zero => rfl
          | succ a =>
            exfalso
            unfold nfm at hs
            rw [List.replicate_succ] at hs
            obtain ⟨h3, _⟩ := sett_cons.1 hs
            exact h2 (half_of (h p (by simp)) fun k hk hn => h3 k hk hn (half_start hk hn))
        · rcases List.mem_cons.1 hq with rfl | hq
          · exact ⟨h1, h2⟩
          · exact hF q hq
theorem shape_uniq {n : Nat} (hn : 2 ≤ n) : ∀ {a a' : Nat} {F F' : List Pm} {b b' : Nat}, Good n F → Good n F' → nfm n a F b = nfm n a' F' b' → a = a' ∧ F = F'
  | 0, 0, [], [], b, b', _, _, _ => ⟨rfl, rfl⟩
  | 0, 0, [], q :: F', b, b', _, h2, e => by
    exfalso
    cases b with
    | zero => cases e
    | succ b =>
      unfold nfm at e
      rw [List.replicate_succ] at e
      injection e with e _
      exact (h2 q (by simp)).1 e.symm
  | 0, 0, p :: F, [], b, b', h1, _, e => by
    exfalso
    cases b' with
    | zero => cases e
    | succ b =>
      unfold nfm at e
      rw [List.replicate_succ] at e
      injection e with e _
      exact (h1 p (by simp)).1 e
  | 0, 0, p :: F, q :: F', b, b', h1, h2, e => by
    unfold nfm at e
    injection e with e1 e2
    obtain ⟨_, h⟩ := shape_uniq hn (a := 0) (a' := 0) (F := F) (F' := F') (b := b) (b' := b') (fun r hr => h1 r (List.mem_cons_of_mem _ hr)) (fun r hr => h2 r (List.mem_cons_of_mem _ hr)) e2
    exact ⟨rfl, by rw [e1, h]⟩
  | a + 1, 0, F, F', b, b', h1, h2, e => by
    exfalso
    unfold nfm at e
    rw [List.replicate_succ] at e
    cases F' with
    | nil =>
      cases b' with
      | zero => cases e
      | succ b' =>
        rw [List.replicate_succ] at e
        injection e with e _
        exact half_ne hn e
    | cons q F' =>
      injection e with e _
      exact (h2 q (by simp)).2 e.symm
  | 0, a + 1, F, F', b, b', h1, h2, e => by
    exfalso
    unfold nfm at e
    rw [List.replicate_succ] at e
    cases F with
    | nil =>
      cases b with
      | zero => cases e
      | succ b =>
        rw [List.replicate_succ] at e
        injection e with e _
        exact half_ne hn e.symm
    | cons q F =>
      injection e with e _
      exact (h1 q (by simp)).2 e
  | a + 1, a' + 1, F, F', b, b', h1, h2, e => by
    unfold nfm at e
    rw [List.replicate_succ, List.replicate_succ] at e
    injection e with _ e
    obtain ⟨h3, h4⟩ := shape_uniq hn (a := a) (a' := a') h1 h2 e
    exact ⟨by rw [h3], h4⟩
theorem sett_halves {n : Nat} {L : List Pm} (h : Sett n L) : ∀ a, Sett n (List.replicate a (half n) ++ L)
  | 0 => h
  | a + 1 => by
    rw [List.replicate_succ, List.cons_append]
    have ih := sett_halves h a
    generalize List.replicate a (half n) ++ L = M at ih
    cases M with
    | nil => exact sett_single n _
    | cons q M => exact sett_cons.2 ⟨fun k hk hn _ => half_fin hk hn, ih⟩
theorem sett_ones {n : Nat} (b : Nat) : ∀ {L : List Pm}, Sett n L → Sett n (L ++ List.replicate b one)
  | [], _ => by
    show Sett n (List.replicate b one)
    induction b with
    | zero => exact sett_nil n
    | succ b ih =>
      rw [List.replicate_succ]
      cases b with
      | zero => exact sett_single n _
      | succ b =>
        rw [List.replicate_succ] at ih ⊢
        exact sett_cons.2 ⟨fun k hk _ hs => absurd hs (one_start k hk), ih⟩
  | [p], _ => by
    rw [List.singleton_append]
    cases b with
    | zero => exact sett_single n _
    | succ b =>
      have h := sett_ones (b + 1) (sett_nil n)
      rw [List.nil_append, List.replicate_succ] at h
      rw [List.replicate_succ]
      exact sett_cons.2 ⟨fun k hk _ hs => absurd hs (one_start k hk), h⟩
  | p :: q :: L, h => by
    obtain ⟨h1, h2⟩ := sett_cons.1 h
    have h3 := sett_ones b h2
    rw [List.cons_append, List.cons_append] at *
    exact sett_cons.2 ⟨h1, h3⟩
theorem sett_drop {n : Nat} : ∀ (A : List Pm) {B : List Pm}, Sett n (A ++ B) → Sett n B
  | [], _, h => h
  | a :: A, _, h => sett_drop A (sett_tail h)
theorem sett_left {n : Nat} {A B : List Pm} (h : Sett n (A ++ B)) : Sett n A := fun L' hm => h _ (hm.appR B)
theorem rch_ones {n : Nat} {y : Pm} (h : y.On n) : ∀ b, Rch n (List.replicate b one ++ [y]) (y :: List.replicate b one)
  | 0 => .refl
  | b + 1 => by
    rw [List.replicate_succ, List.cons_append]
    exact ((rch_ones h b).cons one).trans ((rch_one h).appR (List.replicate b one))
theorem rch_pushhalf {n : Nat} : ∀ {L : List Pm}, AllOn n L → Rch n (L ++ [half n]) (half n :: flipL n L)
  | [], _ => .refl
  | p :: L, h => by
    have h1 := (rch_pushhalf (fun q hq => h q (List.mem_cons_of_mem _ hq)) : Rch n (L ++ [half n]) (half n :: flipL n L)).cons p
    exact h1.trans ((rch_half (h p (by simp))).appR (flipL n L))

/-! ### Words -/
/-- The factor of a letter. -/
def lets (n : Nat) (k : Int) : Pm := if h : 1 ≤ k.natAbs then (if 0 < k then one.behind k.natAbs h else (half n).behind k.natAbs h) else one
theorem lets_pos {n : Nat} {k : Int} (h : 0 < k) : lets n k = one.behind k.natAbs (by omega) := by unfold lets; rw [dif_pos (by omega), if_pos h]
theorem lets_neg {n : Nat} {k : Int} (h : k < 0) : lets n k = (half n).behind k.natAbs (by omega) := by unfold lets; rw [dif_pos (by omega), if_neg (by omega)]
def Ltr (n : Nat) (k : Int) : Prop := k ≠ 0 ∧ k.natAbs < n
theorem lets_on {n : Nat} {k : Int} (h : Ltr n k) : (lets n k).On n := by
  obtain ⟨h1, h2⟩ := h
  rcases Int.lt_trichotomy k 0 with hk | hk | hk
  · rw [lets_neg hk]; exact (on_half n).behind _ h2
  · exact absurd hk h1
  · rw [lets_pos hk]; exact (on_one n).behind _ h2
def flipK (n : Nat) (k : Int) (L : List Pm) : List Pm := if 0 < k then L else flipL n L
def stepP (p : Int) (k : Int) : Int := if 0 < k then p else p - 1
def raw (n : Nat) (w : List Int) : List Pm := w.foldl (fun L k => flipK n k L ++ [lets n k]) []
def pow0 (w : List Int) : Int := w.foldl stepP 0
theorem raw_snoc (n : Nat) (w : List Int) (k : Int) : raw n (w ++ [k]) = flipK n k (raw n w) ++ [lets n k] := by unfold raw; rw [List.foldl_append]; rfl
theorem pow0_snoc (w : List Int) (k : Int) : pow0 (w ++ [k]) = stepP (pow0 w) k := by unfold pow0; rw [List.foldl_append]; rfl
theorem AllOn.flipK {n : Nat} {k : Int} {L : List Pm} (h : AllOn n L) : AllOn n (flipK n k L) := by
  unfold Go.Proofs.Ytfeonaocmnpkcaa.flipK
  split
  · exact h
  · exact h.flipL
theorem raw_on {n : Nat} : ∀ (w : List Int), (∀ k ∈ w, Ltr n k) → AllOn n (raw n w) := by
  have : ∀ (w : List Int) (L : List Pm), (∀ k ∈ w, Ltr n k) → AllOn n L → AllOn n (w.foldl (fun L k => Go.Proofs.Ytfeonaocmnpkcaa.flipK n k L ++ [lets n k]) L) := by
    intro w
    induction w with
    | nil => intro L _ h; exact h
    | cons k w ih => intro L hw h; exact ih _ (fun x hx => hw x (List.mem_cons_of_mem _ hx)) (h.flipK.append (AllOn.one (lets_on (hw k (by simp)))))
  intro w hw
  exact this w [] hw (fun p hp => by simp at hp)
/-- The normal form of a list of factors. -/
structure Nrm (n : Nat) (L : List Pm) (a : Nat) (F : List Pm) : Prop where
  good : Good n F
  ex : ∃ b, Rch n L (nfm n a F b) ∧ Sett n (nfm n a F b)
theorem Nrm.uniq {n : Nat} (hn : 2 ≤ n) {L : List Pm} (hL : AllOn n L) {a a' : Nat} {F F' : List Pm} (h : Nrm n L a F) (h' : Nrm n L a' F') : a = a' ∧ F = F' := by
  obtain ⟨b, r, s⟩ := h.ex
  obtain ⟨b', r', s'⟩ := h'.ex
  exact shape_uniq hn h.good h'.good (sett_uniq hL r r' s s')
theorem Nrm.exists_ {n : Nat} {L : List Pm} (hL : AllOn n L) : ∃ a F, Nrm n L a F := by
  obtain ⟨N, r, s⟩ := sett_ex (n := n) (mes n L) L (Nat.le_refl _) hL
  obtain ⟨a, F, b, rfl, hg⟩ := shape_ex N (hL.rch r) s
  exact ⟨a, F, hg, b, r, s⟩
theorem nfm_flip (n a : Nat) (F : List Pm) (b : Nat) : flipL n (nfm n a F b) = nfm n a (flipL n F) b := by
  unfold nfm
  rw [flipL_append, flipL_append]
  unfold flipL
  rw [List.map_replicate, List.map_replicate, flip_half, flip_one]
theorem Good.flip {n : Nat} {F : List Pm} (h : Good n F) : Good n (flipL n F) := by
  intro p hp
  obtain ⟨q, hq, rfl⟩ := List.mem_map.1 hp
  obtain ⟨h1, h2⟩ := h q hq
  refine ⟨fun e => h1 ?_, fun e => h2 ?_⟩
  · rw [← flip_flip n q, e, flip_one]
  · rw [← flip_flip n q, e, flip_half]
theorem Nrm.flip {n : Nat} {L : List Pm} {a : Nat} {F : List Pm} (hL : AllOn n L) (h : Nrm n L a F) : Nrm n (flipL n L) a (flipL n F) := by
  obtain ⟨b, r, s⟩ := h.ex
  refine ⟨h.good.flip, b, ?_, ?_⟩
  · rw [← nfm_flip]; exact r.flip hL
  · rw [← nfm_flip]; exact s.flip (hL.rch r)
theorem Nrm.flipK {n : Nat} {L : List Pm} {a : Nat} {F : List Pm} (hL : AllOn n L) (k : Int) (h : Nrm n L a F) : Nrm n (flipK n k L) a (flipK n k F) := by
  unfold Go.Proofs.Ytfeonaocmnpkcaa.flipK
  split
  · exact h
  · exact h.flip hL
theorem Nrm.on {n : Nat} {L : List Pm} {a : Nat} {F : List Pm} (hL : AllOn n L) (h : Nrm n L a F) : AllOn n F := by
  obtain ⟨b, r, _⟩ := h.ex
  exact (hL.rch r).right.left
theorem Nrm.sett {n : Nat} {L : List Pm} {a : Nat} {F : List Pm} (h : Nrm n L a F) : Sett n F := by
  obtain ⟨b, _, s⟩ := h.ex
  exact sett_left (sett_drop _ s)
/-- One factor more behind what is normal. -/
theorem Nrm.snoc {n : Nat} {L : List Pm} {a a1 : Nat} {F F1 : List Pm} {y : Pm} (hy : y.On n) (h : Nrm n L a F) (h1 : Nrm n (F ++ [y]) a1 F1) : Nrm n (L ++ [y]) (a + a1) F1 := by
  obtain ⟨b, r, s⟩ := h.ex
  obtain ⟨b1, r1, s1⟩ := h1.ex
  have e : nfm n (a + a1) F1 (b1 + b) = List.replicate a (half n) ++ (nfm n a1 F1 b1 ++ List.replicate b one) := by
    unfold nfm
    rw [← List.replicate_append_replicate, ← List.replicate_append_replicate]
    simp only [List.append_assoc]
  refine ⟨h1.good, b1 + b, ?_, ?_⟩
  · rw [e]
    refine (r.appR [y]).trans ?_
    unfold nfm
    rw [List.append_assoc, List.append_assoc]
    refine Rch.appL _ ?_
    refine (Rch.appL F (rch_ones hy b)).trans ?_
    have h2 := r1.appR (List.replicate b one)
    rw [List.append_assoc, List.singleton_append] at h2
    exact h2
  · rw [e]
    exact sett_halves (sett_ones b s1) a

/-! ### States and letters -/
structure St where
  p : Int
  F : List Pm
/-- A state in normal form. -/
structure Val (n : Nat) (s : St) : Prop where
  on : AllOn n s.F
  sett : Sett n s.F
  good : Good n s.F
/-- One letter more. -/
def Act (n : Nat) (s : St) (k : Int) (t : St) : Prop := ∃ a, Nrm n (flipK n k s.F ++ [lets n k]) a t.F ∧ t.p = stepP s.p k + a
theorem Act.val {n : Nat} {s t : St} {k : Int} (hk : Ltr n k) (hs : AllOn n s.F) (h : Act n s k t) : Val n t := by
  obtain ⟨a, h1, _⟩ := h
  exact ⟨h1.on (hs.flipK.append (AllOn.one (lets_on hk))), h1.sett, h1.good⟩
theorem Act.ex {n : Nat} {s : St} {k : Int} (hk : Ltr n k) (hs : AllOn n s.F) : ∃ t, Act n s k t := by
  obtain ⟨a, F, h⟩ := Nrm.exists_ (hs.flipK.append (AllOn.one (lets_on hk)) : AllOn n (flipK n k s.F ++ [lets n k]))
  exact ⟨⟨stepP s.p k + a, F⟩, a, h, rfl⟩
theorem Act.uniq {n : Nat} {s t t' : St} {k : Int} (hk : Ltr n k) (hs : AllOn n s.F) (h : Act n s k t) (h' : Act n s k t') : t = t' := by
  obtain ⟨a, h1, e1⟩ := h
  obtain ⟨a', h2, e2⟩ := h'
  obtain ⟨rfl, h3⟩ := h1.uniq (by have := hk.1; have := hk.2; omega) (hs.flipK.append (AllOn.one (lets_on hk))) h2
  obtain ⟨p, F⟩ := t
  obtain ⟨p', F'⟩ := t'
  simp only at e1 e2 h3
  rw [e1, e2, h3]
theorem red_neg {n k : Nat} (hk : 1 ≤ k) (hn : k < n) : Red ((half n).behind k hk) (one.behind k hk) := by
  rintro a b hab ⟨h1, h2⟩
  have h1' : sw k b < sw k a := h1
  by_cases hc : a + 1 = k ∧ b = k
  · obtain ⟨ha, hb⟩ := hc
    subst hb
    obtain rfl : a = b - 1 := by omega
    have h2' : dl n (sw b b) < dl n (sw b (b - 1)) := h2
    rw [sw_r, sw_l hk, dl_lt (by omega), dl_lt hn] at h2'
    omega
  · have := sw_lt hab hc
    omega
theorem red_pos {n k : Nat} (hk : 1 ≤ k) (hn : k < n) : Red (Pm.flip n (one.behind k hk)) ((half n).behind k hk) := by
  rw [flip_behind _ hk hn, flip_one]
  rintro a b hab ⟨h1, h2⟩
  have h2' : sw (n - k) b < sw (n - k) a := h2
  by_cases hc : a + 1 = n - k ∧ b = n - k
  · obtain ⟨ha, hb⟩ := hc
    have h1' : sw k (dl n b) < sw k (dl n a) := h1
    rw [dl_lt (show b < n by omega), dl_lt (show a < n by omega), show n - 1 - b = k - 1 by omega, show n - 1 - a = k by omega, sw_r, sw_l hk] at h1'
    omega
  · have := sw_lt hab hc
    omega
/-- A letter and its inverse. -/
theorem Act.cancel {n : Nat} {s t u : St} {k : Int} (hk : Ltr n k) (hs : Val n s) (h : Act n s k t) (h' : Act n t (-k) u) : u = s := by
  have hk' : Ltr n (-k) := ⟨by have := hk.1; omega, by have := hk.2; omega⟩
  obtain ⟨k0, k1⟩ := hk
  have hn : 2 ≤ n := by omega
  obtain ⟨a, h1, e1⟩ := h
  obtain ⟨a', h2, e2⟩ := h'
  have hon : AllOn n (flipK n k s.F ++ [lets n k]) := hs.on.flipK.append (AllOn.one (lets_on ⟨k0, k1⟩))
  -- both letters at once: a half twist and nothing else
  have h3 := (h1.flipK hon (-k)).snoc (lets_on hk') h2
  have e3 : flipK n (-k) (flipK n k s.F ++ [lets n k]) ++ [lets n (-k)] = flipL n s.F ++ [if 0 < k then Pm.flip n (lets n k) else lets n k, lets n (-k)] := by
    unfold flipK
    rcases Int.lt_trichotomy k 0 with h | h | h
    · have h1 : ¬ 0 < k := by omega
      have h2 : 0 < -k := by omega
      rw [if_pos h2, if_neg h1, if_neg h1]; simp
    · exact absurd h k0
    · have h2 : ¬ 0 < -k := by omega
      rw [if_neg h2, if_pos h, if_pos h, flipL_append]; simp [flipL]
  rw [e3] at h3
  have hz : Rch n [if 0 < k then Pm.flip n (lets n k) else lets n k, lets n (-k)] [half n, one] := by
    rcases Int.lt_trichotomy k 0 with h | h | h
    · rw [if_neg (by omega), lets_neg h, lets_pos (by omega)]
      have ek : (-k).natAbs = k.natAbs := by omega
      refine rch_red ?_ ?_ ?_
      · intro p hp
        simp at hp
        rcases hp with rfl | rfl
        · exact (on_half n).behind _ k1
        · exact (on_one n).behind _ (by omega)
      · have := red_neg (n := n) (k := k.natAbs) (by omega) k1
        simp only [ek]
        exact this
      · intro i
        show dl n i = sw (-k).natAbs (sw k.natAbs (dl n i))
        rw [ek, sw_sw (by omega)]
    · exact absurd h k0
    · rw [if_pos h, lets_pos h, lets_neg (by omega)]
      have ek : (-k).natAbs = k.natAbs := by omega
      refine rch_red ?_ ?_ ?_
      · intro p hp
        simp at hp
        rcases hp with rfl | rfl
        · exact ((on_one n).behind _ k1).flip
        · exact (on_half n).behind _ (by omega)
      · have := red_pos (n := n) (k := k.natAbs) (by omega) k1
        simp only [ek]
        exact this
      · intro i
        show dl n i = sw (-k).natAbs (dl n (dl n (sw k.natAbs (dl n i))))
        rw [dl_dl, ek, sw_sw (by omega)]
  have hF : AllOn n (flipL n s.F ++ [if 0 < k then Pm.flip n (lets n k) else lets n k, lets n (-k)]) := by
    refine hs.on.flipL.append ?_
    intro p hp
    simp at hp
    rcases hp with rfl | rfl
    · split
      · exact (lets_on ⟨k0, k1⟩).flip
      · exact lets_on ⟨k0, k1⟩
    · exact lets_on hk'
  have h4 : Nrm n (flipL n s.F ++ [if 0 < k then Pm.flip n (lets n k) else lets n k, lets n (-k)]) 1 s.F := by
    refine ⟨hs.good, 1, ?_, ?_⟩
    · refine (Rch.appL _ hz).trans ?_
      have h5 := (rch_pushhalf hs.on.flipL).appR [one]
      rw [flipL_flipL] at h5
      rw [List.append_assoc] at h5
      exact h5
    · exact sett_halves (sett_ones 1 hs.sett) 1
  obtain ⟨h5, h6⟩ := h3.uniq hn hF h4
  obtain ⟨p, F⟩ := s
  obtain ⟨q, G⟩ := u
  simp only at *
  subst h6
  congr 1
  rw [e2, e1]
  unfold stepP
  rcases Int.lt_trichotomy k 0 with h | h | h
  · have h1 : ¬ 0 < k := by omega
    have h2 : 0 < -k := by omega
    rw [if_pos h2, if_neg h1]; omega
  · exact absurd h k0
  · have h2 : ¬ 0 < -k := by omega
    rw [if_neg h2, if_pos h]; omega
/-- Letters one after the other. -/
def ActW (n : Nat) : St → List Int → St → Prop
  | s, [], t => s = t
  | s, k :: w, t => ∃ u, Act n s k u ∧ ActW n u w t
def LetsN (n : Nat) (w : List Int) : Prop := ∀ k ∈ w, Ltr n k
def invW (w : List Int) : List Int := (w.map fun k => -k).reverse
theorem LetsN.inv {n : Nat} {w : List Int} (h : LetsN n w) : LetsN n (invW w) := by
  intro k hk
  unfold invW at hk
  rw [List.mem_reverse, List.mem_map] at hk
  obtain ⟨j, hj, rfl⟩ := hk
  obtain ⟨h1, h2⟩ := h j hj
  exact ⟨by omega, by omega⟩
theorem invW_invW (w : List Int) : invW (invW w) = w := by
  unfold invW
  rw [List.map_reverse, List.reverse_reverse, List.map_map]
  conv => rhs; rw [← List.map_id w]
  exact List.map_congr_left fun k _ => by simp
theorem ActW.append {n : Nat} : ∀ {a : List Int} {b : List Int} {s t : St}, ActW n s (a ++ b) t → ∃ u, ActW n s a u ∧ ActW n u b t
  | [], _, s, _, h => ⟨s, rfl, h⟩
  | k :: a, _, _, _, h => by
    obtain ⟨u, h1, h2⟩ := h
    obtain ⟨v, h3, h4⟩ := ActW.append h2
    exact ⟨v, ⟨u, h1, h3⟩, h4⟩
theorem ActW.val {n : Nat} : ∀ {w : List Int} {s t : St}, LetsN n w → Val n s → ActW n s w t → Val n t
  | [], _, _, _, hs, h => by cases h; exact hs
  | k :: w, _, _, hw, hs, h => by
    obtain ⟨u, h1, h2⟩ := h
    exact ActW.val (fun x hx => hw x (List.mem_cons_of_mem _ hx)) (h1.val (hw k (by simp)) hs.on) h2
theorem ActW.ex {n : Nat} : ∀ (w : List Int) {s : St}, LetsN n w → Val n s → ∃ t, ActW n s w t
  | [], s, _, _ => ⟨s, rfl⟩
  | k :: w, s, hw, hs => by
    obtain ⟨u, h1⟩ := Act.ex (hw k (by simp)) hs.on
    obtain ⟨t, h2⟩ := ActW.ex w (fun x hx => hw x (List.mem_cons_of_mem _ hx)) (h1.val (hw k (by simp)) hs.on)
    exact ⟨t, u, h1, h2⟩
theorem ActW.cancel {n : Nat} : ∀ {w : List Int} {s t u : St}, LetsN n w → Val n s → ActW n s w t → ActW n t (invW w) u → u = s
  | [], _, _, _, _, _, h, h' => by cases h; exact h'.symm
  | k :: w, s, t, u, hw, hs, h, h' => by
    obtain ⟨v, h1, h2⟩ := h
    have e : invW (k :: w) = invW w ++ [-k] := by simp [invW]
    rw [e] at h'
    obtain ⟨x, h3, y, h4, h5⟩ := h'.append
    have hkl := hw k (by simp)
    have h6 := ActW.cancel (fun x hx => hw x (List.mem_cons_of_mem _ hx)) (h1.val hkl hs.on) h2 h3
    subst h6
    have h7 : y = u := h5
    subst h7
    exact h1.cancel hkl hs h4
/-- The normal form of a word. -/
structure IsNF (n : Nat) (w : List Int) (s : St) : Prop where
  ex : ∃ a, Nrm n (raw n w) a s.F ∧ s.p = pow0 w + a
theorem isNF_nil (n : Nat) : IsNF n [] ⟨0, []⟩ := ⟨0, ⟨fun p hp => by simp at hp, 0, .refl, sett_nil n⟩, rfl⟩
theorem val_nil (n : Nat) : Val n ⟨0, []⟩ := ⟨fun p hp => by simp at hp, sett_nil n, fun p hp => by simp at hp⟩
theorem IsNF.val {n : Nat} {w : List Int} {s : St} (hw : LetsN n w) (h : IsNF n w s) : Val n s := by
  obtain ⟨a, h1, _⟩ := h.ex
  exact ⟨h1.on (raw_on w hw), h1.sett, h1.good⟩
theorem IsNF.act {n : Nat} {w : List Int} {s t : St} {k : Int} (hw : LetsN n w) (hk : Ltr n k) (h : IsNF n w s) (ha : Act n s k t) : IsNF n (w ++ [k]) t := by
  obtain ⟨a, h1, e1⟩ := h.ex
  obtain ⟨b, h2, e2⟩ := ha
  refine ⟨a + b, ?_, ?_⟩
  · rw [raw_snoc]
    exact (h1.flipK (raw_on w hw) k).snoc (lets_on hk) h2
  · rw [pow0_snoc, e2, e1]
    unfold stepP
    split <;> omega
theorem IsNF.actW {n : Nat} : ∀ {v w : List Int} {s t : St}, LetsN n w → LetsN n v → IsNF n w s → ActW n s v t → IsNF n (w ++ v) t
  | [], w, s, t, _, _, h, ha => by cases ha; rw [List.append_nil]; exact h
  | k :: v, w, s, t, hw, hv, h, ha => by
    obtain ⟨u, h1, h2⟩ := ha
    have hk := hv k (by simp)
    have h3 := IsNF.actW (w := w ++ [k]) (fun x hx => (List.mem_append.1 hx).elim (hw x) (fun h => by simp at h; subst h; exact hk)) (fun x hx => hv x (List.mem_cons_of_mem _ hx)) (h.act hw hk h1) h2
    rw [List.append_assoc] at h3
    exact h3
theorem IsNF.uniq {n : Nat} {w : List Int} {s t : St} (hw : LetsN n w) (h : IsNF n w s) (h' : IsNF n w t) : s = t := by
  obtain ⟨a, h1, e1⟩ := h.ex
  obtain ⟨b, h2, e2⟩ := h'.ex
  cases w with
  | nil =>
    have key : ∀ a F, Nrm n (raw n []) a F → a = 0 ∧ F = [] := by
      intro a F h
      obtain ⟨b, r, s⟩ := h.ex
      have e : ([] : List Pm) = nfm n a F b := sett_rch (sett_nil n) r
      unfold nfm at e
      have h0 := congrArg List.length e
      simp at h0
      exact ⟨by omega, List.eq_nil_of_length_eq_zero (by omega)⟩
    obtain ⟨ha, hF⟩ := key _ _ h1
    obtain ⟨hb, hG⟩ := key _ _ h2
    obtain ⟨p, F⟩ := s
    obtain ⟨q, G⟩ := t
    simp only at *
    rw [e1, e2, ha, hb, hF, hG]
  | cons k w =>
    have hk := hw k (by simp)
    obtain ⟨ha, hF⟩ := h1.uniq (by have := hk.1; have := hk.2; omega) (raw_on _ hw) h2
    obtain ⟨p, F⟩ := s
    obtain ⟨q, G⟩ := t
    simp only at *
    rw [e1, e2, ha, hF]
theorem IsNF.from_nil {n : Nat} {w : List Int} {s : St} (hw : LetsN n w) (h : IsNF n w s) : ActW n ⟨0, []⟩ w s := by
  obtain ⟨t, ht⟩ := ActW.ex w hw (val_nil n)
  have h1 := IsNF.actW (w := []) (fun k hk => by simp at hk) hw (isNF_nil n) ht
  rw [List.nil_append] at h1
  rw [h.uniq hw h1]
  exact ht
/-- Two words are equal as braids: asked by their normal forms, and asked by the word of one and the other's inverse. -/
theorem nf_equal {n : Nat} {a b : List Int} {s t u : St} (ha : LetsN n a) (hb : LetsN n b) (hs : IsNF n a s) (ht : IsNF n b t) (hu : IsNF n (a ++ invW b) u) : u = ⟨0, []⟩ ↔ s = t := by
  obtain ⟨v, hv⟩ := ActW.ex (invW b) hb.inv (hs.val ha)
  have huv : u = v := hu.uniq (fun x hx => (List.mem_append.1 hx).elim (ha x) (hb.inv x)) (hs.actW ha hb.inv hv)
  subst huv
  constructor
  · rintro rfl
    have h1 := ht.from_nil hb
    have h2 : ActW n ⟨0, []⟩ (invW (invW b)) t := by rw [invW_invW]; exact h1
    exact (ActW.cancel hb.inv (hs.val ha) hv h2).symm
  · rintro rfl
    exact ActW.cancel hb (val_nil n) (ht.from_nil hb) hv

end Go.Proofs.Ytfeonaocmnpkcaa
