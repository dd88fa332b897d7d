/-
  What the laws' marks do: markX writes numbers one after the other into a slice of the caller's own, heldX reads them again.
-/
import Derived.Test.YthhpjgdeehcgjaaInt
import Derived.Test.YthhpjgdeehcgjaaRows
import Derived.Test.YthhpjgdeehcgjaaMem
import Derived.Deep.OwnRows
namespace Go.Proofs.Ythhpjgdeehcgjaa
set_option linter.unusedVariables false
set_option linter.unusedSimpArgs false
open Go.RowKit

/-- From 'w' to 'w'' only the blocks from lo on and below hi have turned, and new ones have come. -/
structure Only (lo hi : Nat) (w w' : World) : Prop where
  os : w'.os = w.os
  tape : w'.tape = w.tape
  output : w'.output = w.output
  size : w.heap.size ≤ w'.heap.size
  block : ∀ k, k < w.heap.size → (k < lo ∨ hi ≤ k) → w'.heap[k]? = w.heap[k]?

theorem Only.refl (lo hi : Nat) (w : World) : Only lo hi w w := ⟨rfl, rfl, rfl, Nat.le_refl _, fun _ _ _ => rfl⟩
theorem Only.trans {lo hi : Nat} {a b c : World} (h : Only lo hi a b) (k : Only lo hi b c) : Only lo hi a c :=
  ⟨k.os.trans h.os, k.tape.trans h.tape, k.output.trans h.output, Nat.le_trans h.size k.size, fun i h1 h2 => (k.block i (Nat.lt_of_lt_of_le h1 h.size) h2).trans (h.block i h1 h2)⟩
theorem Only.wide {lo hi lo' hi' : Nat} {a b : World} (h : Only lo hi a b) (h1 : lo' ≤ lo) (h2 : hi ≤ hi') : Only lo' hi' a b :=
  ⟨h.os, h.tape, h.output, h.size, fun i h3 h4 => h.block i h3 (by omega)⟩
theorem Only.setCell {lo hi : Nat} {a w : World} (h : Only lo hi a w) {p : Addr} (h1 : lo ≤ p.block) (h2 : p.block < hi) (u : Value) : Only lo hi a (w.setCell p u) :=
  h.trans ⟨rfl, rfl, rfl, by simp [World.setCell], fun k _ hk => Below.heap_setCell _ _ _ _ (by omega)⟩
theorem Only.of_below {lo hi : Nat} {a w : World} (h : Below a.heap.size a w) : Only lo hi a w := ⟨h.os, h.tape, h.output, h.size, fun k hk _ => h.block k hk⟩
theorem Only.alloc {lo hi : Nat} {a w : World} (h : Only lo hi a w) (o : Obj) : Only lo hi a (w.alloc o) :=
  h.trans (Only.of_below ((Below.refl _ _).alloc (Nat.le_refl _) o))
theorem Only.below {lo hi B : Nat} {a b : World} (h : Only lo hi a b) (hB : B ≤ lo) (hs : B ≤ a.heap.size) : Below B a b :=
  ⟨h.os, h.tape, h.output, h.size, fun k hk => h.block k (by omega) (.inl (by omega))⟩
theorem OwC.only {w w' : World} {lo hi l h E sz n : Nat} {v : Value} {xs : List Value} (ho : OwC w lo hi E sz v n xs) (hw : Only l h w w') (hd : hi ≤ l ∨ h ≤ lo) (hs : hi ≤ w.heap.size) : OwC w' lo hi E sz v n xs :=
  ho.keep fun g h1 h2 => hw.block g (by omega) (by omega)

theorem row_getD {cur : Array Value} {i : Nat} (h : i < cur.size) : cur[i]? = some (cur.getD i undef) := by simp [h]
/-- The marks from K on. -/
def vM (K : Int) (c : Nat) : List Value := (List.range c).map fun j : Nat => Value.int .i64 (K + (j : Int))
theorem vM_get {K : Int} {c j : Nat} {x : Int} (h : j < c) (hx : x = K + (j : Int)) : (vM K c)[j]? = some (.int .i64 x) := by simp [vM, h, hx]
theorem take_vM {K : Int} {c N : Nat} {cur : Array Value} {f : Nat → Value} (hc : c ≤ N) (h2 : cur.size = N) (h3 : ∀ i, i < N → cur[i]? = some (f i)) (hf : ∀ j, j < c → f j = .int .i64 (K + (j : Int))) : cur.toList.take c = vM K c := by
  apply List.ext_getElem?
  intro j
  rw [List.getElem?_take]
  by_cases hj : j < c
  · rw [if_pos hj, Array.getElem?_toList, h3 j (by omega), hf j hj, vM_get hj rfl]
  · rw [if_neg hj, List.getElem?_eq_none (by simp [vM]; omega)]

theorem mark_fill1 {K : Int} {f : Nat → Value} {k : Nat} (hf : ∀ j, j < k * 1 → f j = .int .i64 (K + (j : Int))) (j : Nat) (hj : j < (k + 1) * 1) : (fun j => (if j = k then Value.int .i64 (K + (k : Int)) else f j)) j = .int .i64 (K + (j : Int)) := by
  have hlast : ¬ (j = k * 1 + 0) → f j = .int .i64 (K + (j : Int)) := fun h => hf j (by omega)
  show (if j = k then Value.int .i64 (K + (k : Int)) else f j) = _
  (repeat' split)
  all_goals first
    | (congr 1; omega)
    | exact hlast (by omega)

theorem mark_fill6 {K : Int} {f : Nat → Value} {k : Nat} (hf : ∀ j, j < k * 6 → f j = .int .i64 (K + (j : Int))) (j : Nat) (hj : j < (k + 1) * 6) : (fun j => (if j = k * 6 + 5 then Value.int .i64 (K + (k : Int) * 6 + 1 + 1 + 1 + 1 + 1) else (if j = k * 6 + 4 then Value.int .i64 (K + (k : Int) * 6 + 1 + 1 + 1 + 1) else (if j = k * 6 + 3 then Value.int .i64 (K + (k : Int) * 6 + 1 + 1 + 1) else (if j = k * 6 + 2 then Value.int .i64 (K + (k : Int) * 6 + 1 + 1) else (if j = k * 6 + 1 then Value.int .i64 (K + (k : Int) * 6 + 1) else (if j = k * 6 then Value.int .i64 (K + (k : Int) * 6) else f j))))))) j = .int .i64 (K + (j : Int)) := by
  have hlast : ¬ (j = k * 6 + 0 ∨ j = k * 6 + 1 ∨ j = k * 6 + 2 ∨ j = k * 6 + 3 ∨ j = k * 6 + 4 ∨ j = k * 6 + 5) → f j = .int .i64 (K + (j : Int)) := fun h => hf j (by omega)
  show (if j = k * 6 + 5 then Value.int .i64 (K + (k : Int) * 6 + 1 + 1 + 1 + 1 + 1) else (if j = k * 6 + 4 then Value.int .i64 (K + (k : Int) * 6 + 1 + 1 + 1 + 1) else (if j = k * 6 + 3 then Value.int .i64 (K + (k : Int) * 6 + 1 + 1 + 1) else (if j = k * 6 + 2 then Value.int .i64 (K + (k : Int) * 6 + 1 + 1) else (if j = k * 6 + 1 then Value.int .i64 (K + (k : Int) * 6 + 1) else (if j = k * 6 then Value.int .i64 (K + (k : Int) * 6) else f j)))))) = _
  (repeat' split)
  all_goals first
    | (congr 1; omega)
    | exact hlast (by omega)

theorem mark_fill8 {K : Int} {f : Nat → Value} {k : Nat} (hf : ∀ j, j < k * 8 → f j = .int .i64 (K + (j : Int))) (j : Nat) (hj : j < (k + 1) * 8) : (fun j => (if j = k * 8 + 7 then Value.int .i64 (K + (k : Int) * 8 + 1 + 1 + 1 + 1 + 1 + 1 + 1) else (if j = k * 8 + 6 then Value.int .i64 (K + (k : Int) * 8 + 1 + 1 + 1 + 1 + 1 + 1) else (if j = k * 8 + 5 then Value.int .i64 (K + (k : Int) * 8 + 1 + 1 + 1 + 1 + 1) else (if j = k * 8 + 4 then Value.int .i64 (K + (k : Int) * 8 + 1 + 1 + 1 + 1) else (if j = k * 8 + 3 then Value.int .i64 (K + (k : Int) * 8 + 1 + 1 + 1) else (if j = k * 8 + 2 then Value.int .i64 (K + (k : Int) * 8 + 1 + 1) else (if j = k * 8 + 1 then Value.int .i64 (K + (k : Int) * 8 + 1) else (if j = k * 8 then Value.int .i64 (K + (k : Int) * 8) else f j))))))))) j = .int .i64 (K + (j : Int)) := by
  have hlast : ¬ (j = k * 8 + 0 ∨ j = k * 8 + 1 ∨ j = k * 8 + 2 ∨ j = k * 8 + 3 ∨ j = k * 8 + 4 ∨ j = k * 8 + 5 ∨ j = k * 8 + 6 ∨ j = k * 8 + 7) → f j = .int .i64 (K + (j : Int)) := fun h => hf j (by omega)
  show (if j = k * 8 + 7 then Value.int .i64 (K + (k : Int) * 8 + 1 + 1 + 1 + 1 + 1 + 1 + 1) else (if j = k * 8 + 6 then Value.int .i64 (K + (k : Int) * 8 + 1 + 1 + 1 + 1 + 1 + 1) else (if j = k * 8 + 5 then Value.int .i64 (K + (k : Int) * 8 + 1 + 1 + 1 + 1 + 1) else (if j = k * 8 + 4 then Value.int .i64 (K + (k : Int) * 8 + 1 + 1 + 1 + 1) else (if j = k * 8 + 3 then Value.int .i64 (K + (k : Int) * 8 + 1 + 1 + 1) else (if j = k * 8 + 2 then Value.int .i64 (K + (k : Int) * 8 + 1 + 1) else (if j = k * 8 + 1 then Value.int .i64 (K + (k : Int) * 8 + 1) else (if j = k * 8 then Value.int .i64 (K + (k : Int) * 8) else f j)))))))) = _
  (repeat' split)
  all_goals first
    | (congr 1; omega)
    | exact hlast (by omega)

set_option maxHeartbeats 4000000 in
set_option maxRecDepth 100000 in
theorem markI_any (v : Value) (n : Nat) (xs : List Value) (K : Int) (w : World) (lo hi : Nat) (ho : OwC w lo hi 2 1 v n xs) (hK : 0 ≤ K) (hn : K + (n : Int) ≤ 1000000000000) :
    Calls Try.prog 47 #[v, .int .i64 K] w fun e w' => e = .returned (.int .i64 (K + (n : Int))) ∧ OwC w' lo hi 2 1 v n (vM K (n * 1)) ∧ Only lo hi w w' := by
  rcases ho.2 with ⟨rfl, A, c, rfl⟩ | ⟨g, cap, cur, rfl, hlo, hhi, hg, hnc, hcap, hsz, hx⟩
  · go_enter Try.func47, Try.ntmps47
    go_wp2
    go_loopw [1, 5] (fun t i wr => t = .int .i64 K ∧ i = .int .i64 0 ∧ w = wr) (fun _ i _ => 0 - (intOf i).toNat)
    case atStart => exact ⟨rfl, rfl, rfl⟩
    case round =>
      rename_i wr
      obtain ⟨rfl, rfl, rfl⟩ := hrel
      go_wp2
      go_ret
      exact ⟨ret_int (by simp), ⟨by simp [vM], .inl ⟨rfl, A, c, rfl⟩⟩, Only.refl _ _ _⟩
  · have hrow0 : w.rowIs g 2 (cap * 1) (fun i => cur.getD i undef) := ⟨cur, hg, hsz, fun i hi => row_getD (by omega)⟩
    have HR0 := Lib.hid hrow0
    have Hnc := Lib.hid hnc
    clear hx hg hrow0 ho hsz hnc
    go_enter Try.func47, Try.ntmps47
    go_wp2
    go_loopw [1, 5] (fun t i wr => ∃ (k : Nat) (f : Nat → Value), k ≤ n ∧ i = .int .i64 k ∧ t = .int .i64 (K + (k : Int)) ∧ wr.rowIs g 2 (cap * 1) f ∧ Hid (∀ j, j < k * 1 → f j = .int .i64 (K + j)) ∧ Only lo hi w wr) (fun _ i _ => n - (intOf i).toNat)
    case atStart => exact ⟨0, _, Nat.zero_le _, rfl, by simp, HR0.out, fun j hj => absurd hj (by omega), Only.refl _ _ _⟩
    case round =>
      rename_i wr
      obtain ⟨k, f, hk, rfl, rfl, hrow, hf, hO⟩ := hrel
      by_cases hlt : k < n
      · have hcc := Hnc.out
        have d0 := hrow.cell (i := k) (by omega)
        have g0 := fun i => hrow.frozen i
        have HR := Lib.hid hrow
        have HO := Lib.hid hO
        clear hrow hO hcc
        go_wp2
        exact ⟨⟨k + 1, _, by omega, by go_num, by first | go_num | (congr 1; push_cast; omega), (HR.out.set _ _), fun j hj => mark_fill1 hf.out j hj, (HO.out.setCell hlo hhi _)⟩, by simp [intOf]; omega⟩
      · have HR := Lib.hid hrow
        have HO := Lib.hid hO
        clear hrow hO
        obtain rfl : k = n := by omega
        go_wp2
        go_ret
        refine ⟨rfl, ⟨by simp [vM], .inr ?_⟩, HO.out⟩
        obtain ⟨cur', h1, h2, h3⟩ := HR.out
        have hcc : k * 1 ≤ cap * 1 := Nat.mul_le_mul_right _ Hnc.out
        exact ⟨g, cap, cur', rfl, hlo, hhi, h1, Hnc.out, hcap, h2, take_vM hcc h2 h3 hf.out⟩


set_option maxHeartbeats 4000000 in
set_option maxRecDepth 100000 in
theorem markE_any (v : Value) (n : Nat) (xs : List Value) (K : Int) (w : World) (lo hi : Nat) (ho : OwC w lo hi 80 6 v n xs) (hK : 0 ≤ K) (hn : K + (n : Int) * 6 ≤ 1000000000000) :
    Calls Try.prog 13 #[v, .int .i64 K] w fun e w' => e = .returned (.int .i64 (K + (n : Int) * 6)) ∧ OwC w' lo hi 80 6 v n (vM K (n * 6)) ∧ Only lo hi w w' := by
  rcases ho.2 with ⟨rfl, A, c, rfl⟩ | ⟨g, cap, cur, rfl, hlo, hhi, hg, hnc, hcap, hsz, hx⟩
  · go_enter Try.func13, Try.ntmps13
    go_wp2
    go_loopw [1, 5] (fun t i wr => t = .int .i64 K ∧ i = .int .i64 0 ∧ w = wr) (fun _ i _ => 0 - (intOf i).toNat)
    case atStart => exact ⟨rfl, rfl, rfl⟩
    case round =>
      rename_i wr
      obtain ⟨rfl, rfl, rfl⟩ := hrel
      go_wp2
      go_ret
      exact ⟨ret_int (by simp), ⟨by simp [vM], .inl ⟨rfl, A, c, rfl⟩⟩, Only.refl _ _ _⟩
  · have hrow0 : w.rowIs g 80 (cap * 6) (fun i => cur.getD i undef) := ⟨cur, hg, hsz, fun i hi => row_getD (by omega)⟩
    have HR0 := Lib.hid hrow0
    have Hnc := Lib.hid hnc
    clear hx hg hrow0 ho hsz hnc
    go_enter Try.func13, Try.ntmps13
    go_wp2
    go_loopw [1, 5] (fun t i wr => ∃ (k : Nat) (f : Nat → Value), k ≤ n ∧ i = .int .i64 k ∧ t = .int .i64 (K + (k : Int) * 6) ∧ wr.rowIs g 80 (cap * 6) f ∧ Hid (∀ j, j < k * 6 → f j = .int .i64 (K + j)) ∧ Only lo hi w wr) (fun _ i _ => n - (intOf i).toNat)
    case atStart => exact ⟨0, _, Nat.zero_le _, rfl, by simp, HR0.out, fun j hj => absurd hj (by omega), Only.refl _ _ _⟩
    case round =>
      rename_i wr
      obtain ⟨k, f, hk, rfl, rfl, hrow, hf, hO⟩ := hrel
      by_cases hlt : k < n
      · have hcc := Hnc.out
        have d0 := hrow.cell (i := k * 6) (by omega)
        have d1 := hrow.cell (i := k * 6 + 1) (by omega)
        have d2 := hrow.cell (i := k * 6 + 2) (by omega)
        have d3 := hrow.cell (i := k * 6 + 3) (by omega)
        have d4 := hrow.cell (i := k * 6 + 4) (by omega)
        have d5 := hrow.cell (i := k * 6 + 5) (by omega)
        have g0 := fun i => hrow.frozen i
        have HR := Lib.hid hrow
        have HO := Lib.hid hO
        clear hrow hO hcc
        go_wp2
        exact ⟨⟨k + 1, _, by omega, by go_num, by first | go_num | (congr 1; push_cast; omega), ((((((HR.out.set _ _).set _ _).set _ _).set _ _).set _ _).set _ _), fun j hj => mark_fill6 hf.out j hj, ((((((HO.out.setCell hlo hhi _).setCell hlo hhi _).setCell hlo hhi _).setCell hlo hhi _).setCell hlo hhi _).setCell hlo hhi _)⟩, by simp [intOf]; omega⟩
      · have HR := Lib.hid hrow
        have HO := Lib.hid hO
        clear hrow hO
        obtain rfl : k = n := by omega
        go_wp2
        go_ret
        refine ⟨rfl, ⟨by simp [vM], .inr ?_⟩, HO.out⟩
        obtain ⟨cur', h1, h2, h3⟩ := HR.out
        have hcc : k * 6 ≤ cap * 6 := Nat.mul_le_mul_right _ Hnc.out
        exact ⟨g, cap, cur', rfl, hlo, hhi, h1, Hnc.out, hcap, h2, take_vM hcc h2 h3 hf.out⟩

set_option maxHeartbeats 4000000 in
set_option maxRecDepth 100000 in
theorem heldE_any (v : Value) (n : Nat) (K : Int) (w : World) (lo hi : Nat) (ho : OwC w lo hi 80 6 v n (vM K (n * 6))) (hK : 0 ≤ K) (hn : K + (n : Int) * 6 ≤ 1000000000000) :
    Calls Try.prog 14 #[v, .int .i64 K] w fun e w' => e = .returned (.int .i64 (K + (n : Int) * 6)) ∧ w = w' := by
  obtain ⟨A, c, rfl, hln, gl⟩ := ho.cells
  clear ho
  go_enter Try.func14, Try.ntmps14
  go_wp2
  go_loop [1, 5] (fun t i => ∃ k : Nat, k ≤ n ∧ i = .int .i64 k ∧ t = .int .i64 (K + (k : Int) * 6)) (fun _ i => n - (intOf i).toNat)
  case atStart => exact ⟨0, Nat.zero_le _, rfl, by simp⟩
  case round =>
    obtain ⟨k, hk, rfl, rfl⟩ := hrel
    by_cases hlt : k < n
    · obtain ⟨g, rfl, hg1, hg2, _, hc⟩ := gl k hlt
      have d0 : w.cell? ⟨g, k * 6, none⟩ = some (.int .i64 (K + (k : Int) * 6)) := hc (k * 6) _ (by omega) (vM_get (by omega) (by push_cast; omega))
      have d1 : w.cell? ⟨g, k * 6 + 1, none⟩ = some (.int .i64 (K + (k : Int) * 6 + 1)) := hc (k * 6 + 1) _ (by omega) (vM_get (by omega) (by push_cast; omega))
      have d2 : w.cell? ⟨g, k * 6 + 2, none⟩ = some (.int .i64 (K + (k : Int) * 6 + 1 + 1)) := hc (k * 6 + 2) _ (by omega) (vM_get (by omega) (by push_cast; omega))
      have d3 : w.cell? ⟨g, k * 6 + 3, none⟩ = some (.int .i64 (K + (k : Int) * 6 + 1 + 1 + 1)) := hc (k * 6 + 3) _ (by omega) (vM_get (by omega) (by push_cast; omega))
      have d4 : w.cell? ⟨g, k * 6 + 4, none⟩ = some (.int .i64 (K + (k : Int) * 6 + 1 + 1 + 1 + 1)) := hc (k * 6 + 4) _ (by omega) (vM_get (by omega) (by push_cast; omega))
      have d5 : w.cell? ⟨g, k * 6 + 5, none⟩ = some (.int .i64 (K + (k : Int) * 6 + 1 + 1 + 1 + 1 + 1)) := hc (k * 6 + 5) _ (by omega) (vM_get (by omega) (by push_cast; omega))
      clear hc gl hg1 hg2
      go_wp2
      exact ⟨⟨k + 1, by omega, by go_num, by first | go_num | (congr 1; push_cast; omega)⟩, by simp [intOf]; omega⟩
    · obtain rfl : k = n := by omega
      clear gl
      go_wp2
      go_ret
      exact ⟨rfl, rfl⟩

end Go.Proofs.Ythhpjgdeehcgjaa
