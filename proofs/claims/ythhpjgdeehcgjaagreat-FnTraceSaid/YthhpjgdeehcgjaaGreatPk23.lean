/-
  Texts joined: TrA, TrB, TrC, McWale, TrD, TrE.
-/
import Derived.Test.YthhpjgdeehcgjaaGreatPk8
import Derived.Test.YthhpjgdeehcgjaaGreatPk10
import Derived.Test.YthhpjgdeehcgjaaGreatPk22
import Derived.Test.YthhpjgdeehcgjaaGreatPk15
import Derived.Test.YthhpjgdeehcgjaaGreatPk17
import Derived.Test.YthhpjgdeehcgjaaGreatPk7
import Derived.Test.YthhpjgdeehcgjaaGreatPk12
import Derived.Test.YthhpjgdeehcgjaaGreatPk11
/-
  The program's newMachine: a machine of its own.
-/
namespace Go.Proofs.YthhpjgdeehcgjaaGreat
set_option linter.unusedVariables false
set_option linter.unusedSimpArgs false
open Go.RowKit

/-- An empty machine whose rows stand in four blocks. -/
theorem MSt.made {W : World} {B g bF bB bC N : Nat} {cF cB cC : Nat} (hb : W.ownsRow B 34 7 (.slice (some ⟨g, 0, none⟩) 1 1) 1 [.int .i64 N, .int .i64 0, .slice (some ⟨bF, 0, none⟩) N cF, .slice (some ⟨bB, 0, none⟩) N cB, .slice (some ⟨bC, 0, none⟩) 4 cC, .slice none 0 0, .slice none 0 0])
    (hF : W.ownsRow B 32 1 (.slice (some ⟨bF, 0, none⟩) N cF) N (List.replicate N (.slice none 0 0))) (hB : W.ownsRow B 32 1 (.slice (some ⟨bB, 0, none⟩) N cB) N (List.replicate N (.slice none 0 0)))
    (hC : W.ownsRow B 86 2 (.slice (some ⟨bC, 0, none⟩) 4 cC) 4 (vS Car.cells (List.replicate 4 ⟨false, 0⟩)))
    (h1 : bF ≠ bB) (h2 : bF ≠ bC) (h3 : bB ≠ bC) (h4 : g ≠ bF) (h5 : g ≠ bB) (h6 : g ≠ bC) :
    ∃ S, MSt W B g (newMc N) S ∧ (S 1).v = .slice (some ⟨bF, 0, none⟩) N cF ∧ (S 2).v = .slice (some ⟨bB, 0, none⟩) N cB ∧ (S 3).v = .slice (some ⟨bC, 0, none⟩) 4 cC ∧ (S 4).v = .slice none 0 0 ∧ (S 5).v = .slice none 0 0 := by
  have hnone : ∀ j q, (putS (fun _ => Spot.none_ 2 1) 4 (Spot.none_ 50 6) j).v.ownBlock ≠ some q := fun j q e => by
    unfold putS at e
    split at e
    · cases e
    cases e
  have s0 := (SpotsT.none_ W B 2 1).putNone 4 50 6
  generalize hS0 : putS (fun _ => Spot.none_ 2 1) 4 (Spot.none_ 50 6) = S0 at *
  have ob : ∀ (b n c q : Nat), (Value.slice (some ⟨b, 0, none⟩) n c).ownBlock = some q → b = q := fun b n c q h => Option.some.inj h
  have s1 := s0.put 1 ⟨32, 1, .slice (some ⟨bF, 0, none⟩) N cF, N, List.replicate N (.slice none 0 0)⟩ hF (fun q hq => .inr fun j _ => hnone j q)
  have s2 := s1.put 2 ⟨32, 1, .slice (some ⟨bB, 0, none⟩) N cB, N, List.replicate N (.slice none 0 0)⟩ hB (fun q hq => .inr fun j hj => by
    by_cases e : j = 1
    · rw [e, putS_same]; exact fun e => h1 ((ob _ _ _ _ e).trans (ob _ _ _ _ hq).symm)
    · rw [putS_ne e]; exact hnone j q)
  have s3 := s2.put 3 ⟨86, 2, .slice (some ⟨bC, 0, none⟩) 4 cC, 4, vS Car.cells (List.replicate 4 ⟨false, 0⟩)⟩ hC (fun q hq => .inr fun j hj => by
    by_cases e : j = 2
    · rw [e, putS_same]; exact fun e => h3 ((ob _ _ _ _ e).trans (ob _ _ _ _ hq).symm)
    · rw [putS_ne e]
      by_cases e : j = 1
      · rw [e, putS_same]; exact fun e => h2 ((ob _ _ _ _ e).trans (ob _ _ _ _ hq).symm)
      · rw [putS_ne e]; exact hnone j q)
  have s4 := s3.put 0 ⟨34, 7, .slice (some ⟨g, 0, none⟩) 1 1, 1, [.int .i64 N, .int .i64 0, .slice (some ⟨bF, 0, none⟩) N cF, .slice (some ⟨bB, 0, none⟩) N cB, .slice (some ⟨bC, 0, none⟩) 4 cC, .slice none 0 0, .slice none 0 0]⟩ hb (fun q hq => .inr fun j hj => by
    by_cases e : j = 3
    · rw [e, putS_same]; exact fun e => h6 ((ob _ _ _ _ hq).trans (ob _ _ _ _ e).symm)
    · rw [putS_ne e]
      by_cases e : j = 2
      · rw [e, putS_same]; exact fun e => h5 ((ob _ _ _ _ hq).trans (ob _ _ _ _ e).symm)
      · rw [putS_ne e]
        by_cases e : j = 1
        · rw [e, putS_same]; exact fun e => h4 ((ob _ _ _ _ hq).trans (ob _ _ _ _ e).symm)
        · rw [putS_ne e]; exact hnone j q)
  have hz : ∀ j, 5 ≤ j → S0 j = Spot.none_ 2 1 := fun j hj => by rw [← hS0, putS_ne (by omega)]
  have hz4 : S0 4 = Spot.none_ 50 6 := by rw [← hS0, putS_same]
  generalize hS : putS (putS (putS (putS S0 1 ⟨32, 1, .slice (some ⟨bF, 0, none⟩) N cF, N, List.replicate N (.slice none 0 0)⟩) 2 ⟨32, 1, .slice (some ⟨bB, 0, none⟩) N cB, N, List.replicate N (.slice none 0 0)⟩) 3 ⟨86, 2, .slice (some ⟨bC, 0, none⟩) 4 cC, 4, vS Car.cells (List.replicate 4 ⟨false, 0⟩)⟩) 0 ⟨34, 7, .slice (some ⟨g, 0, none⟩) 1 1, 1, [.int .i64 N, .int .i64 0, .slice (some ⟨bF, 0, none⟩) N cF, .slice (some ⟨bB, 0, none⟩) N cB, .slice (some ⟨bC, 0, none⟩) 4 cC, .slice none 0 0, .slice none 0 0]⟩ = S at *
  have e0 : S 0 = ⟨34, 7, .slice (some ⟨g, 0, none⟩) 1 1, 1, [.int .i64 N, .int .i64 0, .slice (some ⟨bF, 0, none⟩) N cF, .slice (some ⟨bB, 0, none⟩) N cB, .slice (some ⟨bC, 0, none⟩) 4 cC, .slice none 0 0, .slice none 0 0]⟩ := by rw [← hS, putS_same]
  have e3 : S 3 = ⟨86, 2, .slice (some ⟨bC, 0, none⟩) 4 cC, 4, vS Car.cells (List.replicate 4 ⟨false, 0⟩)⟩ := by rw [← hS, putS_ne (by omega), putS_same]
  have e2 : S 2 = ⟨32, 1, .slice (some ⟨bB, 0, none⟩) N cB, N, List.replicate N (.slice none 0 0)⟩ := by rw [← hS, putS_ne (by omega), putS_ne (by omega), putS_same]
  have e1 : S 1 = ⟨32, 1, .slice (some ⟨bF, 0, none⟩) N cF, N, List.replicate N (.slice none 0 0)⟩ := by rw [← hS, putS_ne (by omega), putS_ne (by omega), putS_ne (by omega), putS_same]
  have e4 : S 4 = Spot.none_ 50 6 := by rw [← hS, putS_ne (by omega), putS_ne (by omega), putS_ne (by omega), putS_ne (by omega), hz4]
  have er : ∀ j, 5 ≤ j → S j = Spot.none_ 2 1 := fun j hj => by rw [← hS, putS_ne (by omega), putS_ne (by omega), putS_ne (by omega), putS_ne (by omega), hz j hj]
  clear hS hS0
  have hNN : ((N : Int)).toNat = N := by omega
  refine ⟨S, ⟨s4, ?_, ⟨List.replicate N (.slice none 0 0), ?_, fun k hk => ?_⟩, ⟨List.replicate N (.slice none 0 0), ?_, fun k hk => ?_⟩, ?_, ⟨[], ?_, fun k x hk => ?_⟩, ?_, fun k l hk => ?_, fun k l hk => ?_, fun k x hk => ?_⟩, by rw [e1], by rw [e2], by rw [e3], by rw [e4]; rfl, by rw [er 5 (Nat.le_refl _)]; rfl⟩
  · rw [e0, e1, e2, e3, e4, er 5 (Nat.le_refl _)]; rfl
  · rw [e1]; simp [newMc, hNN]
  · have hk' : k < N := by simpa [newMc, hNN] using hk
    rw [er _ (by unfold iF; omega), List.getElem?_replicate, if_pos hk']; rfl
  · rw [e2]; simp [newMc, hNN]
  · have hk' : k < N := by simpa [newMc, hNN] using hk
    rw [er _ (by unfold iB; omega), List.getElem?_replicate, if_pos hk']; rfl
  · rw [e3]; rfl
  · rw [e4]; rfl
  · simp [newMc] at hk
  · rw [er 5 (Nat.le_refl _)]; rfl
  · have : l = [] := by simp [newMc] at hk; exact (List.getElem?_replicate.symm.trans hk |> fun h => by split at h <;> simp_all)
    rw [er _ (by unfold iF; omega), this]; rfl
  · have : l = [] := by simp [newMc] at hk; exact (List.getElem?_replicate.symm.trans hk |> fun h => by split at h <;> simp_all)
    rw [er _ (by unfold iB; omega), this]; rfl
  · simp [newMc] at hk

theorem chain4 (w : World) (o0 o1 o2 o3 : Obj) : ((((w.alloc o0).alloc o1).alloc o2).alloc o3).drew.heap[w.heap.size]? = some o0 ∧ ((((w.alloc o0).alloc o1).alloc o2).alloc o3).drew.heap[w.heap.size + 1]? = some o1 ∧ ((((w.alloc o0).alloc o1).alloc o2).alloc o3).drew.heap[w.heap.size + 1 + 1]? = some o2 ∧ ((((w.alloc o0).alloc o1).alloc o2).alloc o3).drew.heap[w.heap.size + 1 + 1 + 1]? = some o3 ∧ Below w.heap.size w ((((w.alloc o0).alloc o1).alloc o2).alloc o3).drew := by
  have h1 : ∀ (W : World) (o : Obj) (q : Nat), q < W.heap.size → (W.alloc o).heap[q]? = W.heap[q]? := fun W o q hq => ((Below.refl W.heap.size W).alloc (Nat.le_refl _) o).block q hq
  have hb := ((((Below.refl w.heap.size w).alloc (Nat.le_refl _) o0).alloc (by simp) o1).alloc (by simp; omega) o2).alloc (by simp; omega) o3
  have s1 : (w.alloc o0).heap.size = w.heap.size + 1 := by simp
  have s2 : ((w.alloc o0).alloc o1).heap.size = w.heap.size + 1 + 1 := by simp
  have s3 : (((w.alloc o0).alloc o1).alloc o2).heap.size = w.heap.size + 1 + 1 + 1 := by simp
  have n0 := heap_alloc_new w o0
  have n1 := heap_alloc_new (w.alloc o0) o1
  have n2 := heap_alloc_new ((w.alloc o0).alloc o1) o2
  have n3 := heap_alloc_new (((w.alloc o0).alloc o1).alloc o2) o3
  rw [s1] at n1
  rw [s2] at n2
  rw [s3] at n3
  refine ⟨?_, ?_, ?_, n3, hb.drew⟩
  · show ((((w.alloc o0).alloc o1).alloc o2).alloc o3).heap[w.heap.size]? = _
    rw [h1 _ _ _ (by omega), h1 _ _ _ (by omega), h1 _ _ _ (by omega), n0]
  · show ((((w.alloc o0).alloc o1).alloc o2).alloc o3).heap[w.heap.size + 1]? = _
    rw [h1 _ _ _ (by omega), h1 _ _ _ (by omega), n1]
  · show ((((w.alloc o0).alloc o1).alloc o2).alloc o3).heap[w.heap.size + 1 + 1]? = _
    rw [h1 _ _ _ (by omega), n2]
theorem madeCells_one (z : Value) (N : Nat) : (madeCells #[z] N).toList = List.replicate N z := by
  refine List.ext_getElem? fun i => ?_
  rw [List.getElem?_replicate]
  unfold madeCells
  by_cases h : i < N
  · rw [if_pos h]
    simp [h, Nat.mod_one]
  · rw [if_neg h]
    simp [h]
theorem made_fin {w W : World} {N a b c : Nat} (hN : N ≤ 24) (e0 : W.heap[w.heap.size]? = some (.cells #[.int .i64 N, .int .i64 0, .slice (some ⟨a, 0, none⟩) N N, .slice (some ⟨b, 0, none⟩) N N, .slice (some ⟨c, 0, none⟩) 4 4, .slice none 0 0, .slice none 0 0] 34))
    (ea : W.heap[a]? = some (.cells (madeCells #[.slice none 0 0] N) 32)) (eb : W.heap[b]? = some (.cells (madeCells #[.slice none 0 0] N) 32)) (ec : W.heap[c]? = some (.cells (madeCells #[.bool false, .int .i64 0] 8) 86))
    (hb : Below w.heap.size w W) (h1 : w.heap.size < a) (h2 : w.heap.size < b) (h3 : w.heap.size < c) (h4 : a ≠ b) (h5 : a ≠ c) (h6 : b ≠ c) :
    MadeM w (newMc N) (.returned (.agg #[.int .i64 N, .int .i64 0, .slice (some ⟨a, 0, none⟩) N N, .slice (some ⟨b, 0, none⟩) N N, .slice (some ⟨c, 0, none⟩) 4 4, .slice none 0 0, .slice none 0 0])) W := by
  have hrow : ∀ q, w.heap.size < q → W.heap[q]? = some (.cells (madeCells #[.slice none 0 0] N) 32) → W.ownsRow w.heap.size 32 1 (.slice (some ⟨q, 0, none⟩) N N) N (List.replicate N (.slice none 0 0)) := fun q hq hh =>
    ⟨by simp, .inr ⟨q, N, _, rfl, Nat.le_of_lt hq, hh, Nat.le_refl _, by unfold maxLen; omega, by rw [size_madeCells]; omega, by rw [madeCells_one, Nat.mul_one, List.take_of_length_le (by simp)]⟩⟩
  obtain ⟨S, hS, v1, v2, v3, v4, v5⟩ := MSt.made (W := W) (B := w.heap.size) (g := w.heap.size) (N := N) (cF := N) (cB := N) (cC := 4)
    ⟨rfl, .inr ⟨w.heap.size, 1, _, rfl, Nat.le_refl _, e0, Nat.le_refl _, by unfold maxLen; omega, rfl, rfl⟩⟩ (hrow a h1 ea) (hrow b h2 eb)
    ⟨by simp [vS], .inr ⟨c, 4, _, rfl, Nat.le_of_lt h3, ec, Nat.le_refl _, by unfold maxLen; omega, by rw [size_madeCells], by kernel_rfl⟩⟩ h4 h5 h6 (by omega) (by omega) (by omega)
  refine ⟨S, w.heap.size, ?_, hS, hb⟩
  rw [v1, v2, v3, v4, v5]
  rfl
set_option maxHeartbeats 4000000 in
set_option maxRecDepth 100000 in
theorem newMachine_any (n : Int) (h0 : 1 ≤ n) (h1 : n ≤ 24) (w : World) : Calls Tryz.prog 39 #[.int .i64 n] w (MadeM w (newMc n)) := by
  obtain ⟨N, rfl⟩ : ∃ N : Nat, n = (N : Int) := ⟨n.toNat, by omega⟩
  have hmc : ∀ W : World, (Instr.makeSlice 30 (.int .i64 4) (.int .i64 4)).run Tryz.prog W = .ok (.slice (some ⟨W.heap.size, 0, none⟩) 4 4) (W.alloc (.cells (madeCells #[.bool false, .int .i64 0] 8) 86)) := fun W => run_make_rowsN (P := Tryz.prog) 30 86 #[.bool false, .int .i64 0] 2 16 Tryz.underlying30 info_car .i64 .i64 4 (by omega) (by omega) W
  have hmk := fun W => run_make_row' (P := Tryz.prog) 29 32 (.slice none 0 0) 24 Tryz.underlying29 info_sl rfl .i64 .i64 N (by omega) (by omega) W
  have hN0 : (0 : Int) ≤ (N : Int) := by omega
  go_enter Tryz.func39, Tryz.ntmps39
  go_wp2
  go_region
  all_goals
    go_wp2
    refine bodyPost_ret (v := .agg #[_, _, _, _, _, _, _]) (by simp [results, Tryz.results39, go_sem]; exact ⟨rfl, rfl, rfl, rfl, rfl, rfl, rfl⟩) rfl ?_
    refine made_fin (by omega) (chain4 _ _ _ _ _).1 ?_ ?_ ?_ (chain4 _ _ _ _ _).2.2.2.2 (by omega) (by omega) (by omega) (by omega) (by omega) (by omega)
    all_goals first | exact (chain4 _ _ _ _ _).2.1 | exact (chain4 _ _ _ _ _).2.2.1 | exact (chain4 _ _ _ _ _).2.2.2.1

end Go.Proofs.YthhpjgdeehcgjaaGreat

/-
  Traces in plain Lean: the strands that events leave are the live loops.
-/
namespace Go.Proofs.YthhpjgdeehcgjaaGreat
set_option linter.unusedVariables false
set_option linter.unusedSimpArgs false
open Go.RowKit

/-- How many loops lie on needles. -/
def totN (m : Mc) : Nat := m.fr.flatten.length + m.bk.flatten.length
def wsum (h : Int → Nat) : Nat → Int → Nat
  | 0, _ => 0
  | f + 1, x => h x + wsum h f (x + 1)
theorem wsum_add (h : Int → Nat) : ∀ (p q : Nat) (x : Int), wsum h (p + q) x = wsum h p x + wsum h q (x + p)
  | 0, q, x => by rw [Nat.zero_add, wsum, Nat.zero_add]; congr 1; omega
  | p + 1, q, x => by
    rw [show p + 1 + q = (p + q) + 1 by omega, wsum, wsum, wsum_add h p q (x + 1), Nat.add_assoc]
    congr 3
    omega
theorem wsum_zero (h : Int → Nat) : ∀ (p : Nat) (x : Int), (∀ j : Nat, j < p → h (x + j) = 0) → wsum h p x = 0
  | 0, x, _ => rfl
  | p + 1, x, hz => by
    rw [wsum, wsum_zero h p (x + 1) (fun j hj => by have := hz (j + 1) (by omega); rw [← this]; congr 1; omega)]
    have := hz 0 (by omega)
    rw [show x + ((0 : Nat) : Int) = x by omega] at this
    rw [this]
theorem wsum_congr (h h' : Int → Nat) : ∀ (p : Nat) (x : Int), (∀ j : Nat, j < p → h (x + j) = h' (x + j)) → wsum h p x = wsum h' p x
  | 0, x, _ => rfl
  | p + 1, x, hz => by
    have h0 := hz 0 (by omega)
    rw [show x + ((0 : Nat) : Int) = x by omega] at h0
    have ih := wsum_congr h h' p (x + 1) (fun j hj => by
      have := hz (j + 1) (by omega)
      rw [show x + ((j + 1 : Nat) : Int) = x + 1 + (j : Int) by omega] at this
      exact this)
    rw [wsum, wsum, h0, ih]
theorem wsum_list (l : List (List Int)) : ∀ (n k : Nat), n + k = l.length → wsum (fun x => (l.getD x.toNat []).length) n (k : Int) = (l.drop k).flatten.length
  | 0, k, h => by
    rw [List.drop_of_length_le (by omega)]
    rfl
  | n + 1, k, h => by
    have hk : k < l.length := by omega
    rw [wsum, show (k : Int) + 1 = ((k + 1 : Nat) : Int) by omega, wsum_list l n (k + 1) (by omega), List.drop_eq_getElem_cons hk, List.flatten_cons, List.length_append]
    congr 2
    rw [Int.toNat_natCast, List.getD_eq_getElem?_getD, List.getElem?_eq_getElem hk]
    rfl
/-- A row of lists within a window of places. -/
theorem wsum_win (l : List (List Int)) (wd : Int) (hl : (l.length : Int) = wd) (a : Int) (f : Nat) (h1 : a ≤ 0) (h2 : wd ≤ a + f) : wsum (fun x => if inB 0 x (wd - 1) = true then (l.getD x.toNat []).length else 0) f a = l.flatten.length := by
  obtain ⟨p, hp⟩ : ∃ p : Nat, a = -(p : Int) := ⟨(-a).toNat, by omega⟩
  obtain ⟨q, hq⟩ : ∃ q : Nat, f = p + (l.length + q) := ⟨f - p - l.length, by omega⟩
  rw [hq, wsum_add, wsum_add, wsum_zero _ p, wsum_zero _ q, Nat.zero_add, Nat.add_zero]
  · rw [wsum_congr _ (fun x => (l.getD x.toNat []).length) l.length, show a + (p : Int) = ((0 : Nat) : Int) by omega, wsum_list l l.length 0 (by omega)]
    · rfl
    · intro j hj
      exact if_pos (inB_iff.2 ⟨by omega, by omega⟩)
  · intro j hj
    exact if_neg (fun e => by have := inB_iff.1 e; omega)
  · intro j hj
    exact if_neg (fun e => by have := inB_iff.1 e; omega)
theorem szL_ndGo (m : Mc) : ∀ (f : Nat) (x : Int), szL m (ndGo m f x) = wsum (fun x => if inB 0 x (m.wd - 1) = true then (m.fr.getD x.toNat []).length else 0) f x + wsum (fun x => if inB 0 x (m.wd - 1) = true then (m.bk.getD x.toNat []).length else 0) f (x - m.rk)
  | 0, x => rfl
  | f + 1, x => by
    rw [ndGo, szL_append, szL_ndGo m f (x + 1), wsum, wsum, show x - m.rk + 1 = x + 1 - m.rk by omega]
    have h1 : szL m (ndX m x) = (if inB 0 x (m.wd - 1) = true then (m.fr.getD x.toNat []).length else 0) + (if inB 0 (x - m.rk) (m.wd - 1) = true then (m.bk.getD (x - m.rk).toNat []).length else 0) := by
      unfold ndX
      rw [szL_append]
      congr 1
      · split
        · simp [szL, szN, onL]
        · rfl
      · split
        · simp [szL, szN, onL]
        · rfl
    rw [h1]
    omega
theorem live_tot {m : Mc} (h : OkP m) : (liveL m).length = totN m := by
  have h1 : (liveL m).length = szL m (ndL m) := by
    unfold liveL szL
    rw [List.length_flatMap]
    rfl
  obtain ⟨w1, w2⟩ := h.wd
  obtain ⟨r1, r2⟩ := h.rk
  rw [h1]
  unfold ndL
  rw [szL_ndGo, wsum_win m.fr m.wd h.fr (-3) _ (by omega) (by omega), wsum_win m.bk m.wd h.bk (-3 - m.rk) _ (by omega) (by omega)]
  rfl
theorem tot_all (m : Mc) : (allL m).length = totN m + m.dr.length := by
  unfold allL totN
  rw [List.length_append, List.length_append]
  omega
theorem setL_dr (m : Mc) (n : Int × Int) (l : List Int) : (setL m n l).dr = m.dr := by unfold setL; split <;> rfl
theorem tot_set {m : Mc} {n : Int × Int} (l : List Int) (h : ndIn m n) : totN (setL m n l) + (onL m n).length = totN m + l.length := by
  have h1 := (all_set l h).length_eq
  have h2 := (all_get h).length_eq
  rw [tot_all, List.length_append, setL_dr] at h1
  rw [tot_all, List.length_append] at h2
  omega
theorem tot_mv {m : Mc} {x : Opr} (hf : ndIn m x.f) (ht : ndIn m x.t) (hne : x.fb ≠ x.tb) : totN (mvTo m x) = totN m ∧ onL (mvTo m x) x.f = [] := by
  have h1 := tot_set (mvL m x) ht
  have hf' : ndIn (setL m x.t (mvL m x)) x.f := ndIn_setL hf
  have h2 := tot_set [] hf'
  have h3 : onL (setL m x.t (mvL m x)) x.f = onL m x.f := onL_setL_ne _ hf ht hne
  have h4 : (mvL m x).length = (onL m x.f).length + (onL m x.t).length := by
    unfold mvL
    split
    · rw [List.length_append]
    · rw [List.length_append]; omega
  rw [h3] at h2
  refine ⟨?_, onL_setL [] hf'⟩
  show totN (setL (setL m x.t (mvL m x)) x.f []) = _
  simp only [List.length_nil] at h2
  omega
/-- The strands behind an event. -/
def aftD (n : Int) (e : Ev) : Int := if e.k = 2 then n - e.c + 1 else if e.k = 3 then n + 1 else if e.k = 5 then n + 1 else if e.k = 4 then n - e.c else n
def aftDs (n : Int) (l : List Ev) : Int := l.foldl aftD n
theorem aftDs_cr (n : Int) (L : List (Int × Int)) : aftDs n (crEs L) = n := by
  induction L with
  | nil => rfl
  | cons a t ih => exact ih
/-- What an operation leaves is what its events leave. -/
theorem tot_do {m : Mc} {x : Opr} (ok : OkP m) (hop : okOpW m.wd x = true) (h0 : doCode m x = 0) : (totN (doTo m x) : Int) = aftDs (totN m) (evD m x) := by
  obtain ⟨hk0, hfw, htw⟩ := okOpW_iff.1 hop
  have hn : ndB x.fb x.fa = true → ndIn m x.f := fun hf => by
    obtain ⟨h1, h2, h3⟩ := ndB_iff.1 hf
    exact ok.need h1 h2 hfw
  have ht : ndB x.tb x.ta = true → ndIn m x.t := fun hf => by
    obtain ⟨h1, h2, h3⟩ := ndB_iff.1 hf
    exact ok.need h1 h2 htw
  rcases okOp_kinds hk0 with ⟨hk, hd, hf, c1, c4, -⟩ | ⟨hk, hf, hto, hne, -⟩ | ⟨hk, hf, hto, hne, hd, c1, c4, -⟩ | ⟨hk, hf, -⟩ | ⟨hk, hr1, hr2, -⟩ | ⟨hk, -⟩ | ⟨hk, -⟩
  · have hf' := hn hf
    rcases hk with hk | hk | hk
    · rw [(do125 (.inl hk)).2, evD1 hk]
      unfold fmTo
      rw [if_pos hk]
      have h1 := tot_set (m := addLp (carTo m x) x (onL m x.f)) [(m.ls.length : Int)] (n := x.f) hf'
      have h2 : totN (addLp (carTo m x) x (onL m x.f)) = totN m := rfl
      have h3 : onL (addLp (carTo m x) x (onL m x.f)) x.f = onL m x.f := rfl
      rw [h2, h3] at h1
      simp only [List.length_singleton] at h1
      show _ = (totN m : Int) - (szN m x.f : Int) + 1
      unfold szN
      omega
    · rw [(do125 (.inr (.inl hk))).2, evD2 hk]
      unfold fmTo
      rw [if_neg (by omega), if_pos hk]
      have h1 := tot_set (m := addLp (carTo m x) x []) (onL m x.f ++ [(m.ls.length : Int)]) (n := x.f) hf'
      have h2 : totN (addLp (carTo m x) x []) = totN m := rfl
      have h3 : onL (addLp (carTo m x) x []) x.f = onL m x.f := rfl
      rw [h2, h3, List.length_append] at h1
      simp only [List.length_singleton] at h1
      show _ = (totN m : Int) + 1
      omega
    · rw [(do3 hk).2, evD0 (by omega) (by omega) (by omega) (by omega) (by omega)]
      rfl
  · rw [(do4 hk).2, evD0 (by omega) (by omega) (by omega) (by omega) (by omega), (tot_mv (hn hf) (ht hto) hne).1]
    rfl
  · rw [(do125 (.inr (.inr hk))).2, evD5 hk]
    unfold fmTo
    rw [if_neg (by omega), if_neg (by omega)]
    have hmv := tot_mv (m := carTo m x) (x := x) (hn hf) (ht hto) hne
    have hf2 : ndIn (addLp (mvTo (carTo m x) x) x (onL m x.f)) x.f := by
      have : ndIn (mvTo (carTo m x) x) x.f := ndIn_setL (ndIn_setL (show ndIn (carTo m x) x.f from hn hf))
      exact this
    have h1 := tot_set [(m.ls.length : Int)] hf2
    have h2 : totN (addLp (mvTo (carTo m x) x) x (onL m x.f)) = totN m := hmv.1
    have h3 : onL (addLp (mvTo (carTo m x) x) x (onL m x.f)) x.f = [] := hmv.2
    rw [h2, h3] at h1
    simp only [List.length_singleton, List.length_nil] at h1
    show _ = (totN m : Int) + 1
    omega
  · rw [(do6 hk).2, evD6 hk]
    have h1 := tot_set (m := { m with dr := putAll m.dr (onL m x.f) }) [] (n := x.f) (hn hf)
    have h2 : totN { m with dr := putAll m.dr (onL m x.f) } = totN m := rfl
    have h3 : onL { m with dr := putAll m.dr (onL m x.f) } x.f = onL m x.f := rfl
    rw [h2, h3] at h1
    simp only [List.length_nil] at h1
    show _ = (totN m : Int) - (szN m x.f : Int)
    unfold szN
    omega
  · rw [(do7 hk).2, evD7 hk, aftDs_cr]
    rfl
  · rw [(do89 (.inl hk)).2, evD0 (by omega) (by omega) (by omega) (by omega) (by omega)]
    rfl
  · rw [(do89 (.inr hk)).2, evD0 (by omega) (by omega) (by omega) (by omega) (by omega)]
    rfl
/-- The trace of operations, from a machine on, behind some events. -/
def trGo : List Opr → Mc → List Ev → List Ev × Int
  | [], _, acc => (acc, 0)
  | x :: t, m, acc => if doCode m x = 0 then (if 2000 < (acc ++ evD m x).length ∨ 12 < totN (doTo m x) then ([], 5) else trGo t (doTo m x) (acc ++ evD m x)) else ([], doCode m x)
theorem tr_bad {l : List Opr} {k : Nat} {x : Opr} {m : Mc} {acc : List Ev} {Y : List Ev × Int} (h : Y = trGo (l.drop k) m acc) (hx : l[k]? = some x) (h0 : doCode m x ≠ 0) : Y = ([], doCode m x) := by
  rw [h, drop_of_get hx, trGo, if_neg h0]
theorem tr_full {l : List Opr} {k : Nat} {x : Opr} {m : Mc} {acc : List Ev} {Y : List Ev × Int} (h : Y = trGo (l.drop k) m acc) (hx : l[k]? = some x) (h0 : doCode m x = 0) (h1 : 2000 < (acc ++ evD m x).length ∨ 12 < totN (doTo m x)) : Y = ([], 5) := by
  rw [h, drop_of_get hx, trGo, if_pos h0, if_pos h1]
theorem tr_on {l : List Opr} {k : Nat} {x : Opr} {m : Mc} {acc : List Ev} {Y : List Ev × Int} (h : Y = trGo (l.drop k) m acc) (hx : l[k]? = some x) (h0 : doCode m x = 0) (h1 : ¬ (2000 < (acc ++ evD m x).length ∨ 12 < totN (doTo m x))) : Y = trGo (l.drop (k + 1)) (doTo m x) (acc ++ evD m x) := by
  rw [h, drop_of_get hx, trGo, if_pos h0, if_neg h1]
theorem tr_end {l : List Opr} {k : Nat} {m : Mc} {acc : List Ev} {Y : List Ev × Int} (h : Y = trGo (l.drop k) m acc) (hk : l.length ≤ k) : Y = (acc, 0) := by
  rw [h, List.drop_of_length_le hk, trGo]
/-- TraceOf: the events and the code. -/
def trR (n : Int) (l : List Opr) : List Ev × Int := if opsB n l = true then trGo l (newMc n) [] else ([], 1)
theorem okM_new {n : Int} (h0 : 1 ≤ n) (h1 : n ≤ 24) : OkP (newMc n) := by
  refine ⟨⟨h0, h1⟩, ⟨by show (-3 : Int) ≤ 0; omega, by show (0 : Int) ≤ 3; omega⟩, ?_, ?_, rfl, by simp [newMc], ?_, ?_, ?_, ?_, rfl, ?_, ?_⟩
  · simp [newMc]; omega
  · simp [newMc]; omega
  · intro x hx
    have := (List.mem_replicate.1 hx).2
    rw [this]; simp
  · intro x hx
    have := (List.mem_replicate.1 hx).2
    rw [this]; simp
  · intro c hc
    have := (List.mem_replicate.1 hc).2
    rw [this]
    show carB n ⟨false, 0⟩ = true
    simp [carB]
    exact inB_iff.2 ⟨by omega, by omega⟩
  · intro j x hx
    simp [newMc] at hx
  · have e : allL (newMc n) = [] := by simp [allL, newMc]
    rw [e]; exact List.nodup_nil
  · have e : allL (newMc n) = [] := by simp [allL, newMc]
    rw [e]; intro x hx; simp at hx

end Go.Proofs.YthhpjgdeehcgjaaGreat

/-
  The program's trace.
-/
namespace Go.Proofs.YthhpjgdeehcgjaaGreat
set_option linter.unusedVariables false
set_option linter.unusedSimpArgs false
open Go.RowKit

set_option maxHeartbeats 2000000 in
theorem after2_any (e : Ev) (n : Int) (h0 : -100000 ≤ n) (h1 : n ≤ 100000) (hc : e.k = 2 ∨ e.k = 4 → 0 ≤ e.c ∧ e.c ≤ 4) (w : World) : Calls Tryz.prog 40 #[e.v, .int .i64 n] w fun x w' => x = .returned (.int .i64 (aftD n e)) ∧ Below w.heap.size w w' := by
  obtain ⟨k, p, c, b, y, d⟩ := e
  have hc' : k = 2 ∨ k = 4 → 0 ≤ c ∧ c ≤ 4 := hc
  have hw3 : IntKind.i64.wrap (n + 1) = n + 1 := IntWalk.i64_in _ (by omega)
  clear hc
  have HB := Lib.hid (fun k => (Below.refl w.heap.size w).alloc (Nat.le_refl _) (.cells #[.int .i64 k, .int .i64 p, .int .i64 c, .int .i64 b, .int .i64 y, .int .i64 d] 47))
  by_cases k2 : k = 2
  · subst k2
    obtain ⟨c0, c1⟩ := hc' (.inl rfl)
    have hw1 : IntKind.i64.wrap (n - c) = n - c := IntWalk.i64_in _ (by omega)
    have hw2 : IntKind.i64.wrap (n - c + 1) = n - c + 1 := IntWalk.i64_in _ (by omega)
    clear hc'
    go_enter Tryz.func40, Tryz.ntmps40
    go_wp2
    go_ret
    exact ⟨ret_int (by simp [aftD]), HB.out _⟩
  by_cases k3 : k = 3
  · subst k3
    clear k2 hc'
    go_enter Tryz.func40, Tryz.ntmps40
    go_wp2
    go_ret
    exact ⟨ret_int (by simp [aftD]), HB.out _⟩
  by_cases k5 : k = 5
  · subst k5
    clear k2 k3 hc'
    go_enter Tryz.func40, Tryz.ntmps40
    go_wp2
    go_ret
    exact ⟨ret_int (by simp [aftD]), HB.out _⟩
  by_cases k4 : k = 4
  · subst k4
    obtain ⟨c0, c1⟩ := hc' (.inr rfl)
    have hw1 : IntKind.i64.wrap (n - c) = n - c := IntWalk.i64_in _ (by omega)
    clear k2 k3 k5 hc'
    go_enter Tryz.func40, Tryz.ntmps40
    go_wp2
    go_ret
    exact ⟨ret_int (by simp [aftD]), HB.out _⟩
  have HA := Lib.hid (show aftD n ⟨k, p, c, b, y, d⟩ = n by unfold aftD; rw [if_neg k2, if_neg k3, if_neg k5, if_neg k4])
  have e2 : (k == 2) = false := by simpa using k2
  have e3 : (k == 3) = false := by simpa using k3
  have e5 : (k == 5) = false := by simpa using k5
  have e4 : (k == 4) = false := by simpa using k4
  clear k2 k3 k4 k5 hc'
  go_enter Tryz.func40, Tryz.ntmps40
  go_wp2
  go_ret
  exact ⟨ret_int (by rw [HA.out]), HB.out _⟩
theorem aft_step {n : Int} {e : Ev} (h : e.k = 2 ∨ e.k = 4 → 0 ≤ e.c ∧ e.c ≤ 4) : n - 4 ≤ aftD n e ∧ aftD n e ≤ n + 1 := by
  unfold aftD
  split
  · have := h (.inl ‹_›); omega
  · split
    · omega
    · split
      · omega
      · split
        · have := h (.inr ‹_›); omega
        · omega
theorem evD_c {m : Mc} {x : Opr} (ok : okM m = true) : ∀ e ∈ evD m x, e.k = 2 ∨ e.k = 4 → 0 ≤ e.c ∧ e.c ≤ 4 := by
  have h4 := szN_le ok x.f
  intro e he hk
  unfold evD at he
  split at he
  · simp at he
    subst he
    exact ⟨by show (0 : Int) ≤ (szN m x.f : Int); omega, by show (szN m x.f : Int) ≤ 4; omega⟩
  split at he
  · simp at he
    subst he
    simp at hk
  split at he
  · simp at he
    subst he
    simp at hk
  split at he
  · simp at he
    subst he
    exact ⟨by show (0 : Int) ≤ (szN m x.f : Int); omega, by show (szN m x.f : Int) ≤ 4; omega⟩
  split at he
  · unfold crEs at he
    obtain ⟨a, _, rfl⟩ := List.mem_map.1 he
    have hk' : (1 : Int) = 2 ∨ (1 : Int) = 4 := hk
    omega
  · simp at he
theorem tot_new (n : Int) : totN (newMc n) = 0 := by simp [totN, newMc]
theorem aftDs_snoc {n : Int} {l : List Ev} {k : Nat} {e : Ev} (h : l[k]? = some e) : aftDs n (l.take (k + 1)) = aftD (aftDs n (l.take k)) e := by
  unfold aftDs
  rw [List.take_add_one, h]
  simp
theorem wd_do {m : Mc} {x : Opr} : (doTo m x).wd = m.wd := by
  have hs : ∀ (m : Mc) n l, (setL m n l).wd = m.wd := fun m n l => by unfold setL; split <;> rfl
  unfold doTo
  split
  · unfold fmTo
    split
    · rw [hs]; rfl
    · split
      · rw [hs]; rfl
      · rw [hs]; show (mvTo (carTo m x) x).wd = _; unfold mvTo; rw [hs, hs]; rfl
  · split
    · rfl
    · split
      · unfold mvTo; rw [hs, hs]
      · split
        · rw [hs]
        · split <;> rfl

set_option maxHeartbeats 8000000 in
set_option maxRecDepth 100000 in
theorem trace_any (n : Int) (v : Value) (l : List Opr) (w : World) (hl : RdO w w.heap.size v l) (hop : opsB n l = true) :
    Calls Tryz.prog 18 #[.int .i64 n, v] w (GivesC w 47 6 (trGo l (newMc n) []).1.length (vE (trGo l (newMc n) []).1) (trGo l (newMc n) []).2) := by
  obtain ⟨i0, hi, hz0, hz1, hz2⟩ := info_parts info_ev
  have hop' := hop
  unfold opsB at hop'
  simp only [Bool.and_eq_true, decide_eq_true_eq, inB_iff, List.all_eq_true] at hop'
  obtain ⟨⟨n1, n24⟩, hl15, hall⟩ := hop'
  obtain ⟨A, N, c, rfl, hln, hl', gl⟩ := hl
  have HGL := Lib.hid gl
  have HLN := Lib.hid hl'.out
  have HALL := Lib.hid hall
  have hN15 : N ≤ 1500 := by have := hl'.out; omega
  obtain ⟨Y, hY⟩ : ∃ Y, Y = trGo l (newMc n) [] := ⟨_, rfl⟩
  rw [← hY]
  have HY := Lib.hid (show Y = trGo (l.drop 0) (newMc n) [] from hY)
  have HNEW := Lib.hid (okM_iff.2 (okM_new n1 n24))
  have HMN := Lib.hid (newMachine_any n n1 n24 w)
  clear gl hl' hall hY hop hl15
  go_enter Tryz.func18, Tryz.ntmps18
  go_wp2_with fail
  refine (HMN.out).mono ?_
  rintro e w1 ⟨S0, g0, rfl, hM0, hb0⟩
  have hz : w.heap.size ≤ w1.heap.size := hb0.size
  obtain ⟨S1, hM1, hS1, -⟩ := hM0.rebox hz
  obtain ⟨A1, c1, A2, c2, A3, c3, A4, c4, A5, c5, q1, q2, q3, q4, q5⟩ := hM0.slices
  rw [q1, q2, q3, q4, q5] at hM1
  rw [q1, q2, q3, q4, q5]
  have hbB := hb0.alloc hz (.cells (mcV (newMc n).wd (newMc n).rk (.slice A1 (newMc n).fr.length c1) (.slice A2 (newMc n).bk.length c2) (.slice A3 (newMc n).cs.length c3) (.slice A4 (newMc n).ls.length c4) (.slice A5 (newMc n).dr.length c5)) 34)
  have M1 := Lib.hid hM1
  have B1 := Lib.hid hbB
  have hzz : (w1.alloc (.cells (mcV (newMc n).wd (newMc n).rk (.slice A1 (newMc n).fr.length c1) (.slice A2 (newMc n).bk.length c2) (.slice A3 (newMc n).cs.length c3) (.slice A4 (newMc n).ls.length c4) (.slice A5 (newMc n).dr.length c5)) 34)).heap.size = w1.heap.size + 1 := by simp
  clear hM1 hM0 hbB hb0 q1 q2 q3 q4 q5 hS1 HMN
  go_wp2
  go_loopw [7, 8, 19] (fun vo nn i wr => ∃ (k : Nat) (acc : List Ev) (m : Mc) (Sx : Nat → Spot), k ≤ N ∧ i = .int .i64 k ∧ nn = .int .i64 (totN m : Int) ∧ totN m ≤ 12 ∧ wr.ownsRow w.heap.size 47 6 vo acc.length (vE acc) ∧ acc.length ≤ 2000 ∧ Hid (okM m = true ∧ m.wd = n) ∧ Hid (Y = trGo (l.drop k) m acc) ∧ Hid (MSt wr w.heap.size w1.heap.size m Sx) ∧ Hid (∀ q, vo.ownBlock = some q → ¬ blk Sx q) ∧ Hid (Below w.heap.size w wr)) (fun _ _ i _ => N - (intOf i).toNat)
  case atStart =>
    refine ⟨0, [], newMc n, S1, Nat.zero_le _, rfl, by rw [tot_new]; rfl, by rw [tot_new]; omega, ?_, by simp, ⟨HNEW.out, rfl⟩, HY.out, M1.out.below ((Below.refl _ _).alloc (Nat.le_refl _) _), ?_, B1.out.alloc B1.out.size _⟩
    · have h9 := World.ownsRow_lit (base := w.heap.size) (e := 47) (size := 6) (w1.alloc (.cells (mcV (newMc n).wd (newMc n).rk (.slice A1 (newMc n).fr.length c1) (.slice A2 (newMc n).bk.length c2) (.slice A3 (newMc n).cs.length c3) (.slice A4 (newMc n).ls.length c4) (.slice A5 (newMc n).dr.length c5)) 34)) #[] 0 B1.out.size (by unfold maxLen; omega) rfl
      rw [hzz] at h9
      exact h9
    · intro q hq e
      have h9 : w1.heap.size + 1 = q := Option.some.inj hq
      have h8 := (M1.out.sp.ge e).2
      rw [hzz] at h8
      omega
  case round =>
    rename_i wr
    obtain ⟨k, acc, m, Sx, hk, rfl, rfl, ht12, hown, hac, hokm, hd, hms, hnq, hbr⟩ := hrel
    obtain ⟨okm, hmw⟩ := hokm.out
    by_cases hlt : k < N
    · obtain ⟨bo, oo, x, rfl, hbo, hlk, hcx⟩ := HGL.out k hlt
      have hxw : okOpW m.wd x = true := by rw [hmw]; exact HALL.out x (List.mem_of_getElem? hlk)
      obtain ⟨o0, o1, o2, o3, o4, o5, o6, o7⟩ := (CellsAt.below hcx hbr.out hbo).eight
      have HO := Lib.hid hown
      have HOKM := Lib.hid okm
      have HXW := Lib.hid hxw
      have HMW := Lib.hid hmw
      have HLK := Lib.hid hlk
      have hsw := hbr.out.size
      have hbA := (Below.refl wr.heap.size wr).alloc (Nat.le_refl _) (.cells #[.int .i64 x.k, .int .i64 x.d, .int .i64 x.fb, .int .i64 x.fa, .int .i64 x.tb, .int .i64 x.ta, .int .i64 x.c, .int .i64 x.r] 41)
      have HM3 := Lib.hid (hms.out.below hbA)
      have HB3 := Lib.hid (hbr.out.trans (hbA.mono hsw))
      have HX3 := Lib.hid (Bx.new wr [.int .i64 x.k, .int .i64 x.d, .int .i64 x.fb, .int .i64 x.fa, .int .i64 x.tb, .int .i64 x.ta, .int .i64 x.c, .int .i64 x.r] 41)
      have HO3 := Lib.hid (own_below HO.out hbA)
      have HQC := Lib.hid (opCode_any m w1.heap.size _ HM3.out.rd okm x hxw)
      have HVL := Lib.hid (fun q hq => (World.ownsRow.lt HO.out q hq).2)
      have HNBX := Lib.hid (show ¬ blk Sx wr.heap.size from fun e => by have := (hms.out.sp.ge e).2; omega)
      clear hown hbA hcx hlk hms hbr okm hmw hxw hokm HO
      go_wp2_with fail
      refine (HQC.out).mono ?_
      rintro e w4 ⟨rfl, hb4⟩
      have HM4 := Lib.hid (HM3.out.below hb4)
      have HB4 := Lib.hid (HB3.out.trans (hb4.mono HB3.out.size))
      have HX4 := Lib.hid (HX3.out.below hb4 HX3.out.2.2)
      have HO4 := Lib.hid (own_below HO3.out hb4)
      clear hb4 HM3 HB3 HX3 HO3 HQC o0 o1 o2 o3 o4 o5 o6 o7
      by_cases h0 : doCode m x = 0
      · rw [h0]
        have H0 := Lib.hid h0
        have HQE := Lib.hid (opEvents_any m w1.heap.size w4 HM4.out.rd HOKM.out x HXW.out)
        have HEL := Lib.hid (evD_len HOKM.out HXW.out)
        have HEC := Lib.hid (evD_c (x := x) HOKM.out)
        have HET := Lib.hid (tot_do (okM_iff.1 HOKM.out) HXW.out h0)
        have HON := Lib.hid (fun h1 => tr_on hd.out HLK.out h0 h1)
        have HFU := Lib.hid (fun h1 => tr_full hd.out HLK.out h0 h1)
        generalize evD m x = E at *
        obtain ⟨o0, o1, o2, o3, o4, o5, o6, o7⟩ := HX4.out.eight
        clear hd h0
        go_wp2_with fail
        refine (HQE.out).mono ?_
        rintro e w5 ⟨vE5, rfl, ho5, hb5⟩
        obtain ⟨AE, cE, rfl, -⟩ := ho5.cells
        have HM5 := Lib.hid (HM4.out.below hb5)
        have HB5 := Lib.hid (HB4.out.trans (hb5.mono HB4.out.size))
        have HX5 := Lib.hid (HX4.out.below hb5 HX4.out.2.2)
        have HO5 := Lib.hid (own_below HO4.out hb5)
        have HE5 := Lib.hid ho5
        have hz5 : w4.heap.size ≤ w5.heap.size := hb5.size
        have hx4 : wr.heap.size < w4.heap.size := HX4.out.2.2
        clear ho5 hb5 HQE HM4 HB4 HO4 HX4 o0 o1 o2 o3 o4 o5 o6 o7
        have hel := HEL.out
        generalize hEN : E.length = EN at *
        have HEN := Lib.hid hEN
        clear hEN
        go_wp2
        go_loopw [7, 8, 31] (fun vo nn i wq => ∃ (j : Nat) (ac2 : List Ev) (q : Int) (W2 : World), W2 = wq ∧ j ≤ EN ∧ i = .int .i64 j ∧ nn = .int .i64 q ∧ -(4 * (j : Int)) ≤ q ∧ q ≤ 12 + (j : Int) ∧ wq.ownsRow w.heap.size 47 6 vo ac2.length (vE ac2) ∧ ac2.length = acc.length + j ∧ Hid (ac2 = acc ++ E.take j) ∧ Hid (q = aftDs (totN m) (E.take j)) ∧ Hid (Same wr.heap.size w5.heap.size w5 wq) ∧ Hid (Outs wr.heap.size w5.heap.size vo) ∧ Hid (MSt wq w.heap.size w1.heap.size m Sx) ∧ Hid (∀ q, vo.ownBlock = some q → ¬ blk Sx q) ∧ Hid (Below w.heap.size w wq) ∧ w5.heap.size ≤ wq.heap.size) (fun _ _ i _ => EN - (intOf i).toNat)
        case atStart => exact ⟨0, acc, (totN m : Int), w5, rfl, Nat.zero_le _, rfl, rfl, by omega, by omega, HO5.out, rfl, by unfold Hid; simp, by unfold Hid; simp [aftDs], Same.refl _ _ _, fun q hq => .inl (HVL.out q hq), HM5.out, hnq.out, HB5.out, Nat.le_refl _⟩
        case round =>
          obtain ⟨j, ac2, q, W2, hWW, hj, rfl, rfl, hq0, hq1, hown2, hal, hd2, hdq, hsm, hou, hms2, hnq2, hb2, hz2w⟩ := hrel
          subst hWW
          have hlen4 : ac2.length ≤ 10000 := by omega
          have HAL := Lib.hid hal
          clear hal
          by_cases hlt2 : j < EN
          · have hoE := HE5.out.keep (w' := W2) (fun g h1 h2 => hsm.out g (by omega) h2)
            rw [← HEN.out] at hoE
            have hrdE := RdS.of_own Ev.len hoE
            rw [HEN.out] at hrdE
            obtain ⟨be, oe, y, hAe, hbe, hyk, hcy⟩ := RdS.at_ hrdE hlt2
            subst hAe
            obtain ⟨z0, z1, z2, z3, z4, z5⟩ := hcy.six
            have hyc := HEC.out y (List.mem_of_getElem? hyk)
            have hst := aft_step (n := q) hyc
            have HYD := Lib.hid (show ac2 ++ [y] = acc ++ E.take (j + 1) by rw [hd2.out, List.take_add_one, hyk]; simp)
            have HQD := Lib.hid (show aftD q y = aftDs (totN m) (E.take (j + 1)) by rw [aftDs_snoc hyk, ← hdq.out])
            have HAF := Lib.hid (fun W => after2_any y q (by omega) (by omega) hyc W)
            have HO2 := Lib.hid hown2
            have hs2w := hb2.out.size
            have hbA := (Below.refl W2.heap.size W2).alloc (Nat.le_refl _) (.cells #[.int .i64 y.k, .int .i64 y.p, .int .i64 y.c, .int .i64 y.b, .int .i64 y.y, .int .i64 y.d] 47)
            have hXE := Bx.new W2 [.int .i64 y.k, .int .i64 y.p, .int .i64 y.c, .int .i64 y.b, .int .i64 y.y, .int .i64 y.d] 47
            have HXE := Lib.hid hXE
            clear hown2 hrdE hoE hcy hyk hyc hd2 hdq
            go_wp2_with (at_builtin; refine wpList_append_own_at _ rfl _ _ 26 rfl w.heap.size 47 i0 _ 6 48 Tryz.underlying26 hi hz0 hz1 hz2 rfl (by decide) _ ac2.length (vE ac2) rfl ((HO2.out.alloc _).alloc _) ⟨W2.heap.size + 1, 0, none⟩ 1 1 y.cells rfl rfl (new_cells' _ _ (by simp)) (by intro u hu; simp at hu; rcases hu with rfl | rfl | rfl | rfl | rfl | rfl <;> rfl) (by unfold maxLen; omega) (by omega) (by simp; omega) ?_)
            intro v6 w6 hown6 hg6 _ hat6
            have hbb := ((Below.refl W2.heap.size W2).alloc (Nat.le_refl _) (.cells #[.int .i64 y.k, .int .i64 y.p, .int .i64 y.c, .int .i64 y.b, .int .i64 y.y, .int .i64 y.d] 47)).alloc (by simp) (.cells #[.int .i64 y.k, .int .i64 y.p, .int .i64 y.c, .int .i64 y.b, .int .i64 y.y, .int .i64 y.d] 47)
            have hsA : ((W2.alloc (.cells #[.int .i64 y.k, .int .i64 y.p, .int .i64 y.c, .int .i64 y.b, .int .i64 y.y, .int .i64 y.d] 47)).alloc (.cells #[.int .i64 y.k, .int .i64 y.p, .int .i64 y.c, .int .i64 y.b, .int .i64 y.y, .int .i64 y.d] 47)).heap.size = W2.heap.size + 2 := by simp
            have hmA := hms2.out.below hbb
            have HM6 := Lib.hid (hmA.keep (fun p qq hq => hg6.block qq (hmA.sp.lt hq).2 (fun e => hnq2.out qq e.symm ⟨p, hq⟩)))
            have HSM6 := Lib.hid (((hsm.out.below hbb hz2w).grown hg6 hou.out (by rw [hsA]; omega)))
            have HOU6 := Lib.hid (hou.out.grown hat6 (by first | omega | (rw [hsA]; omega)))
            have HNQ6 : Hid (∀ qq, v6.ownBlock = some qq → ¬ blk Sx qq) := fun qq hq e => by
              rcases hat6 with h9 | h9
              · exact hnq2.out qq (h9 ▸ hq) e
              · rw [h9] at hq
                injection hq with hq
                have := (hms2.out.sp.ge e).2
                omega
            have HB6 := Lib.hid ((hb2.out.trans (hbb.mono hs2w)).grown hg6 (by rw [hsA]; omega) (fun qq hq => (World.ownsRow.lt HO2.out qq hq).1))
            have HO6 : Hid (w6.ownsRow w.heap.size 47 6 v6 (ac2 ++ [y]).length (vE (ac2 ++ [y]))) := by
              show w6.ownsRow _ _ 6 v6 _ (vS Ev.cells (ac2 ++ [_]))
              rw [vS_snoc, List.length_append]
              exact hown6
            have HXE6 := Lib.hid ((HXE.out.alloc (.cells #[.int .i64 y.k, .int .i64 y.p, .int .i64 y.c, .int .i64 y.b, .int .i64 y.y, .int .i64 y.d] 47)).keep (hg6.block W2.heap.size (by rw [hsA]; omega) (fun e => by have := (World.ownsRow.lt HO2.out _ e.symm).2; omega)) hg6.size)
            have hz6 : w5.heap.size ≤ w6.heap.size := by have := hg6.size; rw [hsA] at this; omega
            clear hown6 hg6 hat6 hbb hsA hmA z0 z1 z2 z3 z4 z5 HO2 HXE hms2 hnq2 hb2 hsm hou hbA hXE
            obtain ⟨z0, z1, z2, z3, z4, z5⟩ := HXE6.out.1.six
            go_wp2_with fail
            refine (HAF.out _).mono ?_
            rintro e w7 ⟨rfl, hb7⟩
            have HM7 := Lib.hid (HM6.out.below hb7)
            have HSM7 := Lib.hid (HSM6.out.below hb7 hz6)
            have HB7 := Lib.hid (HB6.out.trans (hb7.mono HB6.out.size))
            have HO7 := Lib.hid (own_below HO6.out hb7)
            have hz7 : w5.heap.size ≤ w7.heap.size := Nat.le_trans hz6 hb7.size
            obtain ⟨hst1, hst2⟩ := hst
            clear hb7 HM6 HSM6 HB6 HO6 HXE6 z0 z1 z2 z3 z4 z5 HAF
            generalize aftD q y = q2 at *
            go_wp2
            exact ⟨⟨j + 1, ac2 ++ [y], q2, w7, rfl, by omega, by go_num, rfl, by omega, by omega, HO7.out, by have := HAL.out; rw [List.length_append]; simp; omega, HYD.out, HQD.out, HSM7.out, HOU6.out, HM7.out, HNQ6.out, HB7.out, hz7⟩, by simp [intOf]; omega⟩
          · obtain ⟨Ao, co, rfl, -⟩ := (OwC.of_own hown2).cells
            have HD2 := Lib.hid (show ac2 = acc ++ E by rw [hd2.out, List.take_of_length_le (by have := HEN.out; omega)])
            have HDQ := Lib.hid (show q = (totN (doTo m x) : Int) by rw [hdq.out, List.take_of_length_le (by have := HEN.out; omega), ← HET.out])
            have HX7 := Lib.hid (HX5.out.keep (hsm.out wr.heap.size (Nat.le_refl _) (by omega)) hz2w)
            have HO2 := Lib.hid hown2
            obtain ⟨o0, o1, o2, o3, o4, o5, o6, o7⟩ := HX7.out.eight
            have HEX := Lib.hid (exec_any hms2.out hb2.out.size HOKM.out x HXW.out H0.out)
            clear hown2 hd2 hdq
            go_wp2_with fail
            refine (HEX.out).mono ?_
            rintro e w8 ⟨rfl, S8, hm8, hv8⟩
            have HO8 := Lib.hid (hv8.only.own HO2.out hnq2.out)
            have HNQ8 := Lib.hid (fun qq (hq : _ = some qq) => hv8.nblk (hnq2.out qq hq) (World.ownsRow.lt HO2.out qq hq).2)
            have HB8 := Lib.hid (hb2.out.trans ((hv8.below hms2.out.sp hb2.out.size)))
            have HM8 := Lib.hid hm8
            have HOK8 := Lib.hid (ok_do HOKM.out HXW.out H0.out)
            clear hm8 hv8 o0 o1 o2 o3 o4 o5 o6 o7 HX7 HEX HO2 hsm hou hms2 hnq2 hb2
            have hwd8 := wd_do (m := m) (x := x)
            generalize doTo m x = m' at *
            have hDQ := HDQ.out
            subst hDQ
            by_cases hf1 : 2000 < ac2.length
            · have hf1' : decide ((2000 : Int) < (ac2.length : Int)) = true := by simp; omega
              have hf1p : (2000 : Int) < (ac2.length : Int) := by omega
              have HF := Lib.hid (HFU.out (.inl (by rw [← HD2.out]; exact hf1)))
              go_wp2
              refine bodyPost_ret (v := .tuple #[.slice none 0 0, .int .i64 5]) (by simp [results, Tryz.results18, go_sem]) rfl ?_
              rw [HF.out]
              exact ⟨_, rfl, OwC.nil, HB8.out⟩
            have hf1' : decide ((2000 : Int) < (ac2.length : Int)) = false := by simp; omega
            have hf1n : ¬ (2000 : Int) < (ac2.length : Int) := by omega
            by_cases hf2 : 12 < totN m'
            · have hf2' : decide ((12 : Int) < (totN m' : Int)) = true := by simp; omega
              have hf2p : (12 : Int) < (totN m' : Int) := by omega
              have HF := Lib.hid (HFU.out (.inr hf2))
              go_wp2
              refine bodyPost_ret (v := .tuple #[.slice none 0 0, .int .i64 5]) (by simp [results, Tryz.results18, go_sem]) rfl ?_
              rw [HF.out]
              exact ⟨_, rfl, OwC.nil, HB8.out⟩
            have hf2' : decide ((12 : Int) < (totN m' : Int)) = false := by simp; omega
            have hf2p : ¬ (12 : Int) < (totN m' : Int) := by omega
            have HNX := Lib.hid (HON.out (by rw [← HD2.out]; omega))
            have HN1 : Hid (Y = trGo (l.drop (k + 1)) m' ac2) := by unfold Hid; rw [HNX.out, ← HD2.out]
            have HLT := Lib.hid (show ac2.length ≤ 2000 by omega)
            have HTT := Lib.hid (show totN m' ≤ 12 by omega)
            go_wp2
            exact ⟨⟨k + 1, ac2, m', S8, by omega, by go_num, rfl, HTT.out, HO8.out, HLT.out, ⟨HOK8.out, by rw [hwd8]; exact HMW.out⟩, HN1.out, HM8.out, HNQ8.out, HB8.out⟩, by simp [intOf]; omega⟩
      · have HBAD := Lib.hid (tr_bad hd.out HLK.out h0)
        have h0' : (doCode m x != 0) = true := by simpa using h0
        clear h0 hd
        generalize doCode m x = cc at *
        go_wp2
        refine bodyPost_ret (v := .tuple #[.slice none 0 0, .int .i64 cc]) (by simp [results, Tryz.results18, go_sem]) rfl ?_
        rw [HBAD.out]
        exact ⟨_, rfl, OwC.nil, HB4.out⟩
    · have HEND := Lib.hid (tr_end hd.out (by have := HLN.out; omega))
      have HO := Lib.hid hown
      clear hd hown
      go_wp2
      refine bodyPost_ret (v := .tuple #[_, .int .i64 0]) (by simp [results, Tryz.results18, go_sem]; rfl) rfl ?_
      rw [HEND.out]
      exact ⟨_, rfl, OwC.of_own HO.out, hbr.out⟩

end Go.Proofs.YthhpjgdeehcgjaaGreat

/-
  Wales: wale of the program, l11Wale of the reference; l11Children, l07Live of the reference.
-/
namespace Go.Proofs.YthhpjgdeehcgjaaGreat
set_option linter.unusedVariables false
set_option linter.unusedSimpArgs false
open Go.RowKit



theorem lv_next {m : Mc} {Y acc : List Int} {x : Int} (h : Y = acc ++ (ndGo m (m.wd + 3 - x).toNat x).flatMap (onL m)) (hx : x < m.wd + 3) : Y = (acc ++ (ndX m x).flatMap (onL m)) ++ (ndGo m (m.wd + 3 - (x + 1)).toNat (x + 1)).flatMap (onL m) := by
  rw [h, show (m.wd + 3 - x).toNat = (m.wd + 3 - (x + 1)).toNat + 1 by omega, ndGo, List.flatMap_append, List.append_assoc]
theorem onL_fr {m : Mc} {x : Int} {n : Nat} {l : List Int} (h : x = (n : Int)) (hl : m.fr[n]? = some l) : onL m (1, x) = l := by
  subst h
  unfold onL
  rw [if_neg (by simp), List.getD_eq_getElem?_getD, show ((1 : Int), (n : Int)).2.toNat = n by simp, hl]; rfl
theorem onL_bk {m : Mc} {x : Int} {n : Nat} {l : List Int} (h : x = (n : Int)) (hl : m.bk[n]? = some l) : onL m (2, x) = l := by
  subst h
  unfold onL
  rw [if_pos rfl, List.getD_eq_getElem?_getD, show ((2 : Int), (n : Int)).2.toNat = n by simp, hl]; rfl

set_option maxHeartbeats 4000000 in
set_option maxRecDepth 100000 in
theorem l07Live_any (m : Mc) (g : Nat) (w : World) (h : RdP w g m) (ok : okM m = true) :
    Calls Tryz.prog 32 #[.pointer (some ⟨g, 0, none⟩)] w (GivesOw w 2 1 (liveL m).length (vI (liveL m))) := by
  obtain ⟨i0, hi, hz0, hz1, hz2⟩ := info_parts info_int
  have hgl := h.lt
  obtain ⟨F, G, C, L, D, hc, h1, h2, h3, h4, h5, h6⟩ := h
  obtain ⟨d1, d2, d3, d4, d5, d6, -⟩ := ok_wd ok
  obtain ⟨AF, cF, rfl⟩ := RdN.shape h1
  obtain ⟨AG, cG, rfl⟩ := RdN.shape h2
  have HC := Lib.hid hc
  have HF := Lib.hid h1
  have HG := Lib.hid h2
  have HOK := Lib.hid ok
  have HY := Lib.hid (show liveL m = [] ++ (ndGo m (m.wd + 3 - (-3)).toNat (-3)).flatMap (onL m) by unfold liveL; rw [nd_start d1]; rfl)
  have hwr1 : IntKind.i64.wrap (m.wd - 1) = m.wd - 1 := IntWalk.i64_in _ (by omega)
  have hwr3 : IntKind.i64.wrap (m.wd + 3) = m.wd + 3 := IntWalk.i64_in _ (by omega)
  clear hc h1 h2 h3 h4 h5 h6 ok
  generalize liveL m = Y at *
  generalize hnf : m.fr.length = nf at *
  generalize hnb : m.bk.length = nb at *
  have HNF := Lib.hid hnf
  have HNB := Lib.hid hnb
  clear hnf hnb
  go_enter Tryz.func32, Tryz.ntmps32
  go_wp2
  go_loopw [3, 4] (fun t i wr => ∃ (x : Int) (acc : List Int), -3 ≤ x ∧ x ≤ m.wd + 3 ∧ i = .int .i64 x ∧ wr.ownsRow w.heap.size 2 1 t acc.length (vI acc) ∧ (acc.length : Int) ≤ 8 * (x + 3) ∧ Hid (Y = acc ++ (ndGo m (m.wd + 3 - x).toNat x).flatMap (onL m)) ∧ Below w.heap.size w wr) (fun _ i _ => (m.wd + 3 - intOf i).toNat)
  case atStart => exact ⟨-3, [], by omega, by omega, rfl, World.ownsRow_lit _ _ _ (Nat.le_refl _) (by unfold maxLen; omega) rfl, by simp, HY.out, (Below.refl _ _).alloc (Nat.le_refl _) _⟩
  case round =>
    rename_i wr
    obtain ⟨x, acc, q1, q2, rfl, hown, hak, hd, hb⟩ := hrel
    obtain ⟨y0, y1, y2, y3, y4, y5, y6⟩ := (HC.out.below hb hgl).seven
    by_cases hlt : x < m.wd + 3
    · have HN := lv_next hd.out hlt
      have HB := Lib.hid hb
      have HO := Lib.hid hown
      have hz := hb.size
      cases hb1 : inB 0 x (m.wd - 1) <;> cases hb2 : inB 0 (x - m.rk) (m.wd - 1)
      · rw [ndX_ff hb1 hb2] at HN
        have I1 := Lib.hid hb1
        have I2 := Lib.hid hb2
        have HD := Lib.hid (show Y = acc ++ (ndGo m (m.wd + 3 - (x + 1)).toNat (x + 1)).flatMap (onL m) by rw [HN]; simp)
        clear HN hb hown hd
        clear hb1 hb2
        go_wp2_with (go_at_call 21; refine (l00In_s _ _ _ _).mono ?_; rintro e w' ⟨rfl, rfl⟩; first | rw [I1.out] | rw [I2.out])
        exact ⟨⟨x + 1, acc, by omega, by omega, by go_num, HO.out, by omega, HD.out, HB.out⟩, by simp [intOf]; omega⟩
      · rw [ndX_ft hb1 hb2] at HN
        have I1 := Lib.hid hb1
        have I2 := Lib.hid hb2
        obtain ⟨zn, hzn⟩ := Int.eq_ofNat_of_zero_le (inB_iff.1 I2.out).1
        have hzf : zn < nb := by have := (inB_iff.1 I2.out).2; omega
        obtain ⟨bG, oG, xG, sG, hAG, hbbG, hlG, hcG, hsG⟩ := (RdLL.below HG.out HB.out).at_ hzf
        obtain ⟨AsG, csG, rfl⟩ := hsG.len
        have hxG4 : xG.length ≤ 4 := by have := onL_len HOK.out (2, x - m.rk); rw [onL_bk hzn hlG] at this; exact this
        have HXG := Lib.hid (onL_bk hzn hlG)
        have HRG := Lib.hid (hsG.reads).1
        have hzi0 : (0 : Int) ≤ x - m.rk := by omega
        have hzi1 : x - m.rk < (nb : Int) := by omega
        have hzt : (x - m.rk).toNat = zn := by omega
        subst hAG
        rw [← hzt] at hcG
        clear hlG hsG hzt hzn
        have HD := Lib.hid (show Y = (acc ++ xG) ++ (ndGo m (m.wd + 3 - (x + 1)).toNat (x + 1)).flatMap (onL m) by rw [HN]; simp [HXG.out])
        clear HN hb hown hd
        clear hb1 hb2
        go_wp2_with (first | (go_at_call 21; refine (l00In_s _ _ _ _).mono ?_; rintro e w' ⟨rfl, rfl⟩; first | rw [I1.out] | rw [I2.out]) | (at_builtin; refine wpList_append_any _ rfl _ _ _ rfl w.heap.size 2 i0 _ 1 8 Tryz.underlying32 hi hz0 hz1 hz2 rfl (by decide) _ _ _ rfl HO.out _ AsG xG.length csG (vI xG) rfl HRG.out (vI_one xG) (by first | (unfold maxLen; omega) | (rw [List.length_append]; unfold maxLen; omega)) (by first | omega | (rw [List.length_append]; omega)) HB.out.size ?_))
        intro v2 w2 hown2 hg2 hat2
        have HB2 := Lib.hid (HB.out.grown hg2 HB.out.size (fun kk hkk => (HO.out.lt kk hkk).1))
        have HO2 : Hid (w2.ownsRow w.heap.size 2 1 v2 (acc ++ xG).length (vI (acc ++ xG))) := by unfold Hid; rw [List.length_append, vI_append]; first | exact hown2 | (rw [List.length_append]; exact hown2)
        clear hown2 hg2 hat2 HO HB y0 y1 y2 y3 y4 y5 y6
        have HB := HB2
        have HO := HO2
        clear HB2 HO2
        obtain ⟨y0, y1, y2, y3, y4, y5, y6⟩ := (HC.out.below HB.out hgl).seven
        go_wp2
        exact ⟨⟨x + 1, acc ++ xG, by omega, by omega, by go_num, HO.out, by simp; omega, HD.out, HB.out⟩, by simp [intOf]; omega⟩
      · rw [ndX_tf hb1 hb2] at HN
        have I1 := Lib.hid hb1
        have I2 := Lib.hid hb2
        obtain ⟨xn, hxn⟩ := Int.eq_ofNat_of_zero_le (inB_iff.1 I1.out).1
        have hxf : xn < nf := by have := (inB_iff.1 I1.out).2; omega
        obtain ⟨bF, oF, xF, sF, hAF, hbbF, hlF, hcF, hsF⟩ := (RdLL.below HF.out HB.out).at_ hxf
        obtain ⟨AsF, csF, rfl⟩ := hsF.len
        have hxF4 : xF.length ≤ 4 := by have := onL_len HOK.out (1, x); rw [onL_fr hxn hlF] at this; exact this
        have HXF := Lib.hid (onL_fr hxn hlF)
        have HRF := Lib.hid (hsF.reads).1
        have hxi0 : (0 : Int) ≤ x := by omega
        have hxi1 : x < (nf : Int) := by omega
        have hxt : x.toNat = xn := by omega
        subst hAF
        rw [← hxt] at hcF
        clear hlF hsF hxt hxn
        have HD := Lib.hid (show Y = (acc ++ xF) ++ (ndGo m (m.wd + 3 - (x + 1)).toNat (x + 1)).flatMap (onL m) by rw [HN]; simp [HXF.out])
        clear HN hb hown hd
        clear hb1
        go_wp2_with (first | (go_at_call 21; refine (l00In_s _ _ _ _).mono ?_; rintro e w' ⟨rfl, rfl⟩; first | rw [I1.out] | rw [I2.out]) | (at_builtin; refine wpList_append_any _ rfl _ _ _ rfl w.heap.size 2 i0 _ 1 8 Tryz.underlying32 hi hz0 hz1 hz2 rfl (by decide) _ _ _ rfl HO.out _ AsF xF.length csF (vI xF) rfl HRF.out (vI_one xF) (by first | (unfold maxLen; omega) | (rw [List.length_append]; unfold maxLen; omega)) (by first | omega | (rw [List.length_append]; omega)) HB.out.size ?_))
        intro v1 w1 hown1 hg1 hat1
        have HB1 := Lib.hid (HB.out.grown hg1 HB.out.size (fun kk hkk => (HO.out.lt kk hkk).1))
        have HO1 : Hid (w1.ownsRow w.heap.size 2 1 v1 (acc ++ xF).length (vI (acc ++ xF))) := by unfold Hid; rw [List.length_append, vI_append]; first | exact hown1 | (rw [List.length_append]; exact hown1)
        clear hown1 hg1 hat1 HO HB y0 y1 y2 y3 y4 y5 y6
        have HB := HB1
        have HO := HO1
        clear HB1 HO1
        obtain ⟨y0, y1, y2, y3, y4, y5, y6⟩ := (HC.out.below HB.out hgl).seven
        clear hb2
        go_wp2_with (go_at_call 21; refine (l00In_s _ _ _ _).mono ?_; rintro e w' ⟨rfl, rfl⟩; rw [I2.out])
        exact ⟨⟨x + 1, acc ++ xF, by omega, by omega, by go_num, HO.out, by simp; omega, HD.out, HB.out⟩, by simp [intOf]; omega⟩
      · rw [ndX_tt hb1 hb2] at HN
        have I1 := Lib.hid hb1
        have I2 := Lib.hid hb2
        obtain ⟨xn, hxn⟩ := Int.eq_ofNat_of_zero_le (inB_iff.1 I1.out).1
        have hxf : xn < nf := by have := (inB_iff.1 I1.out).2; omega
        obtain ⟨bF, oF, xF, sF, hAF, hbbF, hlF, hcF, hsF⟩ := (RdLL.below HF.out HB.out).at_ hxf
        obtain ⟨AsF, csF, rfl⟩ := hsF.len
        have hxF4 : xF.length ≤ 4 := by have := onL_len HOK.out (1, x); rw [onL_fr hxn hlF] at this; exact this
        have HXF := Lib.hid (onL_fr hxn hlF)
        have HRF := Lib.hid (hsF.reads).1
        have hxi0 : (0 : Int) ≤ x := by omega
        have hxi1 : x < (nf : Int) := by omega
        have hxt : x.toNat = xn := by omega
        subst hAF
        rw [← hxt] at hcF
        clear hlF hsF hxt hxn
        have HN1 := Lib.hid HN
        clear HN hb hown hd
        clear hb1
        go_wp2_with (first | (go_at_call 21; refine (l00In_s _ _ _ _).mono ?_; rintro e w' ⟨rfl, rfl⟩; first | rw [I1.out] | rw [I2.out]) | (at_builtin; refine wpList_append_any _ rfl _ _ _ rfl w.heap.size 2 i0 _ 1 8 Tryz.underlying32 hi hz0 hz1 hz2 rfl (by decide) _ _ _ rfl HO.out _ AsF xF.length csF (vI xF) rfl HRF.out (vI_one xF) (by first | (unfold maxLen; omega) | (rw [List.length_append]; unfold maxLen; omega)) (by first | omega | (rw [List.length_append]; omega)) HB.out.size ?_))
        intro v1 w1 hown1 hg1 hat1
        have HB1 := Lib.hid (HB.out.grown hg1 HB.out.size (fun kk hkk => (HO.out.lt kk hkk).1))
        have HO1 : Hid (w1.ownsRow w.heap.size 2 1 v1 (acc ++ xF).length (vI (acc ++ xF))) := by unfold Hid; rw [List.length_append, vI_append]; first | exact hown1 | (rw [List.length_append]; exact hown1)
        clear hown1 hg1 hat1 HO HB y0 y1 y2 y3 y4 y5 y6
        have HB := HB1
        have HO := HO1
        clear HB1 HO1
        obtain ⟨y0, y1, y2, y3, y4, y5, y6⟩ := (HC.out.below HB.out hgl).seven
        obtain ⟨zn, hzn⟩ := Int.eq_ofNat_of_zero_le (inB_iff.1 I2.out).1
        have hzf : zn < nb := by have := (inB_iff.1 I2.out).2; omega
        obtain ⟨bG, oG, xG, sG, hAG, hbbG, hlG, hcG, hsG⟩ := (RdLL.below HG.out HB.out).at_ hzf
        obtain ⟨AsG, csG, rfl⟩ := hsG.len
        have hxG4 : xG.length ≤ 4 := by have := onL_len HOK.out (2, x - m.rk); rw [onL_bk hzn hlG] at this; exact this
        have HXG := Lib.hid (onL_bk hzn hlG)
        have HRG := Lib.hid (hsG.reads).1
        have hzi0 : (0 : Int) ≤ x - m.rk := by omega
        have hzi1 : x - m.rk < (nb : Int) := by omega
        have hzt : (x - m.rk).toNat = zn := by omega
        subst hAG
        rw [← hzt] at hcG
        clear hlG hsG hzt hzn
        have HD := Lib.hid (show Y = ((acc ++ xF) ++ xG) ++ (ndGo m (m.wd + 3 - (x + 1)).toNat (x + 1)).flatMap (onL m) by rw [HN1.out]; simp [HXF.out, HXG.out])
        clear hb2
        go_wp2_with (first | (go_at_call 21; refine (l00In_s _ _ _ _).mono ?_; rintro e w' ⟨rfl, rfl⟩; first | rw [I1.out] | rw [I2.out]) | (at_builtin; refine wpList_append_any _ rfl _ _ _ rfl w.heap.size 2 i0 _ 1 8 Tryz.underlying32 hi hz0 hz1 hz2 rfl (by decide) _ _ _ rfl HO.out _ AsG xG.length csG (vI xG) rfl HRG.out (vI_one xG) (by first | (unfold maxLen; omega) | (rw [List.length_append]; unfold maxLen; omega)) (by first | omega | (rw [List.length_append]; omega)) HB.out.size ?_))
        intro v2 w2 hown2 hg2 hat2
        have HB2 := Lib.hid (HB.out.grown hg2 HB.out.size (fun kk hkk => (HO.out.lt kk hkk).1))
        have HO2 : Hid (w2.ownsRow w.heap.size 2 1 v2 ((acc ++ xF) ++ xG).length (vI ((acc ++ xF) ++ xG))) := by unfold Hid; rw [List.length_append, vI_append]; first | exact hown2 | (rw [List.length_append]; exact hown2)
        clear hown2 hg2 hat2 HO HB y0 y1 y2 y3 y4 y5 y6
        have HB := HB2
        have HO := HO2
        clear HB2 HO2
        obtain ⟨y0, y1, y2, y3, y4, y5, y6⟩ := (HC.out.below HB.out hgl).seven
        go_wp2
        exact ⟨⟨x + 1, (acc ++ xF) ++ xG, by omega, by omega, by go_num, HO.out, by simp; omega, HD.out, HB.out⟩, by simp [intOf]; omega⟩
    · have HB := Lib.hid hb
      have HO := Lib.hid hown
      have HD := Lib.hid (show Y = acc by rw [hd.out, show (m.wd + 3 - x).toNat = 0 by omega]; simp [ndGo])
      clear hb hown hd
      go_wp2
      go_ret
      exact ⟨_, rfl, by rw [HD.out]; exact OwC.of_own HO.out, HB.out⟩

end Go.Proofs.YthhpjgdeehcgjaaGreat

/-
  The reference's l10Trace; TraceOf, both.
-/
namespace Go.Proofs.YthhpjgdeehcgjaaGreat
set_option linter.unusedVariables false
set_option linter.unusedSimpArgs false
open Go.RowKit

set_option maxHeartbeats 8000000 in
set_option maxRecDepth 100000 in
theorem l10Trace_any (n : Int) (v : Value) (l : List Opr) (w : World) (hl : RdO w w.heap.size v l) (hop : opsB n l = true) :
    Calls Tryz.prog 20 #[.int .i64 n, v] w (GivesC w 47 6 (trGo l (newMc n) []).1.length (vE (trGo l (newMc n) []).1) (trGo l (newMc n) []).2) := by
  obtain ⟨i0, hi, hz0, hz1, hz2⟩ := info_parts info_ev
  have hop' := hop
  unfold opsB at hop'
  simp only [Bool.and_eq_true, decide_eq_true_eq, inB_iff, List.all_eq_true] at hop'
  obtain ⟨⟨n1, n24⟩, hl15, hall⟩ := hop'
  obtain ⟨A, N, c, rfl, hln, hl', gl⟩ := hl
  have HGL := Lib.hid gl
  have HLN := Lib.hid hl'.out
  have HALL := Lib.hid hall
  have hN15 : N ≤ 1500 := by have := hl'.out; omega
  obtain ⟨Y, hY⟩ : ∃ Y, Y = trGo l (newMc n) [] := ⟨_, rfl⟩
  rw [← hY]
  have HY := Lib.hid (show Y = trGo (l.drop 0) (newMc n) [] from hY)
  have HNEW := Lib.hid (okM_iff.2 (okM_new n1 n24))
  have HMN := Lib.hid (l07New_any n n1 n24 w)
  clear gl hl' hall hY hop hl15
  go_enter Tryz.func20, Tryz.ntmps20
  go_wp2_with fail
  refine (HMN.out).mono ?_
  rintro e w1 ⟨S0, g0, rfl, hM0, hb0⟩
  have hz : w.heap.size ≤ w1.heap.size := hb0.size
  obtain ⟨S1, hM1, hS1, -⟩ := hM0.rebox hz
  obtain ⟨A1, c1, A2, c2, A3, c3, A4, c4, A5, c5, q1, q2, q3, q4, q5⟩ := hM0.slices
  rw [q1, q2, q3, q4, q5] at hM1
  rw [q1, q2, q3, q4, q5]
  have hbB := hb0.alloc hz (.cells (mcV (newMc n).wd (newMc n).rk (.slice A1 (newMc n).fr.length c1) (.slice A2 (newMc n).bk.length c2) (.slice A3 (newMc n).cs.length c3) (.slice A4 (newMc n).ls.length c4) (.slice A5 (newMc n).dr.length c5)) 34)
  have M1 := Lib.hid hM1
  have B1 := Lib.hid hbB
  have hzz : (w1.alloc (.cells (mcV (newMc n).wd (newMc n).rk (.slice A1 (newMc n).fr.length c1) (.slice A2 (newMc n).bk.length c2) (.slice A3 (newMc n).cs.length c3) (.slice A4 (newMc n).ls.length c4) (.slice A5 (newMc n).dr.length c5)) 34)).heap.size = w1.heap.size + 1 := by simp
  clear hM1 hM0 hbB hb0 q1 q2 q3 q4 q5 hS1 HMN
  go_wp2
  go_loopw [7, 8] (fun vo i wr => ∃ (k : Nat) (acc : List Ev) (m : Mc) (Sx : Nat → Spot), k ≤ N ∧ i = .int .i64 k ∧ wr.ownsRow w.heap.size 47 6 vo acc.length (vE acc) ∧ acc.length ≤ 2000 ∧ Hid (okM m = true ∧ m.wd = n) ∧ Hid (Y = trGo (l.drop k) m acc) ∧ Hid (MSt wr w.heap.size w1.heap.size m Sx) ∧ Hid (∀ q, vo.ownBlock = some q → ¬ blk Sx q) ∧ Hid (Below w.heap.size w wr)) (fun _ i _ => N - (intOf i).toNat)
  case atStart =>
    refine ⟨0, [], newMc n, S1, Nat.zero_le _, rfl, ?_, by simp, ⟨HNEW.out, rfl⟩, HY.out, M1.out.below ((Below.refl _ _).alloc (Nat.le_refl _) _), ?_, B1.out.alloc B1.out.size _⟩
    · have h9 := World.ownsRow_lit (base := w.heap.size) (e := 47) (size := 6) (w1.alloc (.cells (mcV (newMc n).wd (newMc n).rk (.slice A1 (newMc n).fr.length c1) (.slice A2 (newMc n).bk.length c2) (.slice A3 (newMc n).cs.length c3) (.slice A4 (newMc n).ls.length c4) (.slice A5 (newMc n).dr.length c5)) 34)) #[] 0 B1.out.size (by unfold maxLen; omega) rfl
      rw [hzz] at h9
      exact h9
    · intro q hq e
      have h9 : w1.heap.size + 1 = q := Option.some.inj hq
      have h8 := (M1.out.sp.ge e).2
      rw [hzz] at h8
      omega
  case round =>
    rename_i wr
    obtain ⟨k, acc, m, Sx, hk, rfl, hown, hac, hokm, hd, hms, hnq, hbr⟩ := hrel
    obtain ⟨okm, hmw⟩ := hokm.out
    by_cases hlt : k < N
    · obtain ⟨bo, oo, x, rfl, hbo, hlk, hcx⟩ := HGL.out k hlt
      have hxw : okOpW m.wd x = true := by rw [hmw]; exact HALL.out x (List.mem_of_getElem? hlk)
      have HO := Lib.hid hown
      have HOKM := Lib.hid okm
      have HXW := Lib.hid hxw
      have HMW := Lib.hid hmw
      have HLK := Lib.hid hlk
      have hsw := hbr.out.size
      have HQD := Lib.hid (l10Do_any hms.out hsw x bo (oo + k * 8) (CellsAt.below hcx hbr.out hbo) (hms.out.not_blk hbo) okm hxw)
      have HVL := Lib.hid (fun q hq => (World.ownsRow.lt HO.out q hq).2)
      clear hown hcx hlk okm hmw hxw hokm
      go_wp2_with fail
      refine (HQD.out).mono ?_
      rintro e w4 ⟨v4, S4, rfl, hown4, hv4, hm4, hn4⟩
      have HB4 := Lib.hid (hbr.out.trans (hv4.below hms.out.sp hsw))
      have HO4 := Lib.hid (hv4.only.own HO.out hnq.out)
      have HNQ4 := Lib.hid (fun q (hq : _ = some q) => hv4.nblk (hnq.out q hq) (HVL.out q hq))
      have hsz4 : wr.heap.size ≤ w4.heap.size := hv4.size
      obtain ⟨A4', c4', rfl, -⟩ := (OwC.of_own hown4).cells
      by_cases h0 : doCode m x = 0
      · rw [h0]
        have HM4 := Lib.hid (hm4 h0)
        have HOK4 := Lib.hid (ok_do HOKM.out HXW.out h0)
        have HEL := Lib.hid (evD_len HOKM.out HXW.out)
        have HON := Lib.hid (fun h1 => tr_on hd.out HLK.out h0 h1)
        have HFU := Lib.hid (fun h1 => tr_full hd.out HLK.out h0 h1)
        rw [evO_ok h0] at hown4
        rw [show evO m x = evD m x from evO_ok h0]
        have HRD := Lib.hid (RdS.reads Ev.len (by decide) (RdS.of_own Ev.len (OwC.of_own hown4))).1
        have hwd8 := wd_do (m := m) (x := x)
        have hel := HEL.out
        generalize evD m x = E at *
        generalize doTo m x = m' at *
        clear hown4 hv4 hm4 hn4 hd h0 hms hnq hbr HQD HO
        have hb4 := HB4.out.size
        go_wp2_with (at_builtin; refine wpList_append_any _ rfl _ _ _ rfl w.heap.size 47 i0 _ 6 48 Tryz.underlying26 hi hz0 hz1 hz2 rfl (by decide) _ _ _ rfl HO4.out _ A4' E.length c4' (vE E) rfl HRD.out (vE_one E) (by unfold maxLen; omega) (by omega) hb4 ?_)
        intro v5 w5 hown5 hg5 hat5
        obtain ⟨A5', c5', rfl, -⟩ := (OwC.of_own hown5).cells
        have HO5 : Hid (w5.ownsRow w.heap.size 47 6 (.slice A5' (acc.length + E.length) c5') (acc ++ E).length (vE (acc ++ E))) := by unfold Hid; rw [List.length_append, vE_app]; exact hown5
        have HM5 := Lib.hid (HM4.out.keep (fun j q hq => hg5.block q (HM4.out.sp.lt hq).2 (fun e => HNQ4.out q e.symm ⟨j, hq⟩)))
        have HB5 := Lib.hid (HB4.out.grown hg5 hb4 (fun q hq => (World.ownsRow.lt HO4.out q hq).1))
        have HNQ5 : Hid (∀ q, (Value.slice A5' (acc.length + E.length) c5').ownBlock = some q → ¬ blk S4 q) := fun q hq e => by
          rcases hat5 with h | h
          · exact HNQ4.out q (h ▸ hq) e
          · rw [h] at hq; injection hq with hq; have := (HM4.out.sp.ge e).2; omega
        have hacl : (acc ++ E).length = acc.length + E.length := List.length_append
        have HACL := Lib.hid hacl
        clear hown5 hg5 hat5 HO4 HM4 HB4 HNQ4 HRD hacl
        generalize acc.length + E.length = T at *
        by_cases hf1 : 2000 < T
        · have hf1' : decide ((2000 : Int) < (T : Int)) = true := by simp; omega
          have hf1p : (2000 : Int) < (T : Int) := by omega
          have HF := Lib.hid (HFU.out (.inl (by rw [HACL.out]; exact hf1)))
          go_wp2
          refine bodyPost_ret (v := .tuple #[.slice none 0 0, .int .i64 5]) (by simp [results, Tryz.results20, go_sem]) rfl ?_
          rw [HF.out]
          exact ⟨_, rfl, OwC.nil, HB5.out⟩
        have hf1' : decide ((2000 : Int) < (T : Int)) = false := by simp; omega
        have hf1n : ¬ (2000 : Int) < (T : Int) := by omega
        have HLV := Lib.hid (l07Live_any m' w1.heap.size w5 HM5.out.rd HOK4.out)
        have HLT := Lib.hid (live_tot (okM_iff.1 HOK4.out))
        go_wp2_with fail
        refine (HLV.out).mono ?_
        rintro e w6 ⟨v6, rfl, ho6, hb6⟩
        rw [HLT.out] at ho6
        obtain ⟨A6, c6, rfl, -⟩ := ho6.cells
        have HB6 := Lib.hid (HB5.out.trans (hb6.mono HB5.out.size))
        have HM6 := Lib.hid (HM5.out.below hb6)
        have HO6 := Lib.hid (own_below HO5.out hb6)
        clear ho6 hb6
        by_cases hf2 : 12 < totN m'
        · have hf2' : decide ((12 : Int) < (totN m' : Int)) = true := by simp; omega
          have hf2p : (12 : Int) < (totN m' : Int) := by omega
          have HF := Lib.hid (HFU.out (.inr hf2))
          go_wp2
          refine bodyPost_ret (v := .tuple #[.slice none 0 0, .int .i64 5]) (by simp [results, Tryz.results20, go_sem]) rfl ?_
          rw [HF.out]
          exact ⟨_, rfl, OwC.nil, HB6.out⟩
        have hf2' : decide ((12 : Int) < (totN m' : Int)) = false := by simp; omega
        have hf2p : ¬ (12 : Int) < (totN m' : Int) := by omega
        have HNX := Lib.hid (HON.out (by rw [HACL.out]; omega))
        have HLL := Lib.hid (show (acc ++ E).length ≤ 2000 by rw [HACL.out]; omega)
        go_wp2
        exact ⟨⟨k + 1, acc ++ E, m', S4, by omega, by go_num, HO6.out, HLL.out, ⟨HOK4.out, by rw [hwd8]; exact HMW.out⟩, HNX.out, HM6.out, HNQ5.out, HB6.out⟩, by simp [intOf]; omega⟩
      · have HBAD := Lib.hid (tr_bad hd.out HLK.out h0)
        have h0' : (doCode m x != 0) = true := by simpa using h0
        clear h0 hd hown4 hm4 hv4 hn4
        generalize doCode m x = cc at *
        go_wp2
        refine bodyPost_ret (v := .tuple #[.slice none 0 0, .int .i64 cc]) (by simp [results, Tryz.results20, go_sem]) rfl ?_
        rw [HBAD.out]
        exact ⟨_, rfl, OwC.nil, HB4.out⟩
    · have HEND := Lib.hid (tr_end hd.out (by have := HLN.out; omega))
      have HO := Lib.hid hown
      clear hd hown
      go_wp2
      refine bodyPost_ret (v := .tuple #[_, .int .i64 0]) (by simp [results, Tryz.results20, go_sem]; rfl) rfl ?_
      rw [HEND.out]
      exact ⟨_, rfl, OwC.of_own HO.out, hbr.out⟩
theorem trR_yes {n : Int} {l : List Opr} (h : opsB n l = true) : trR n l = trGo l (newMc n) [] := by unfold trR; rw [if_pos h]
theorem trR_no {n : Int} {l : List Opr} (h : opsB n l = false) : trR n l = ([], 1) := by unfold trR; rw [if_neg (by rw [h]; decide)]
set_option maxHeartbeats 2000000 in
set_option maxRecDepth 100000 in
theorem implTraceOf_any (n : Int) (v : Value) (l : List Opr) (w : World) (hl : RdO w w.heap.size v l) : Calls Tryz.prog 5 #[.int .i64 n, v] w (GivesC w 47 6 (trR n l).1.length (vE (trR n l).1) (trR n l).2) := by
  have HL := Lib.hid hl
  have HVF := Lib.hid (validFor_any n v l w hl)
  clear hl
  cases hop : opsB n l
  · have HB := Lib.hid hop
    rw [trR_no hop]
    clear hop
    go_enter Tryz.func5, Tryz.ntmps5
    go_wp2_with fail
    refine (HVF.out).mono ?_
    rintro e w1 ⟨rfl, hb1⟩
    rw [HB.out]
    have HB1 := Lib.hid hb1
    clear hb1
    go_wp2
    refine bodyPost_ret (v := .tuple #[.slice none 0 0, .int .i64 1]) (by simp [results, Tryz.results5, go_sem]) rfl ?_
    exact ⟨_, rfl, OwC.nil, HB1.out⟩
  · have HB := Lib.hid hop
    rw [trR_yes hop]
    clear hop
    go_enter Tryz.func5, Tryz.ntmps5
    go_wp2_with fail
    refine (HVF.out).mono ?_
    rintro e w1 ⟨rfl, hb1⟩
    rw [HB.out]
    have HL1 := Lib.hid ((RdS.below HL.out hb1).more hb1.size)
    have HB1 := Lib.hid hb1
    clear hb1
    go_wp2_with fail
    refine (trace_any n v l w1 HL1.out HB.out).mono ?_
    rintro e w2 ⟨v2, rfl, ho2, hb2⟩
    have HFIN : Hid (GivesC w 47 6 (trGo l (newMc n) []).1.length (vE (trGo l (newMc n) []).1) (trGo l (newMc n) []).2 (.returned (.tuple #[v2, .int .i64 (trGo l (newMc n) []).2])) w2) := ⟨v2, rfl, ho2.wide HB1.out.size (Nat.le_refl _), HB1.out.trans (hb2.mono HB1.out.size)⟩
    generalize trGo l (newMc n) [] = R at *
    clear ho2 hb2
    go_wp2
    refine bodyPost_ret (v := .tuple #[v2, .int .i64 R.2]) (by simp [results, Tryz.results5, go_sem]) rfl ?_
    exact HFIN.out
set_option maxHeartbeats 2000000 in
set_option maxRecDepth 100000 in
theorem specTraceOf_any (n : Int) (v : Value) (l : List Opr) (w : World) (hl : RdO w w.heap.size v l) : Calls Tryz.prog 6 #[.int .i64 n, v] w (GivesC w 47 6 (trR n l).1.length (vE (trR n l).1) (trR n l).2) := by
  have HL := Lib.hid hl
  have HVF := Lib.hid (l07Ops_any n v l w hl)
  clear hl
  cases hop : opsB n l
  · have HB := Lib.hid hop
    rw [trR_no hop]
    clear hop
    go_enter Tryz.func6, Tryz.ntmps6
    go_wp2_with fail
    refine (HVF.out).mono ?_
    rintro e w1 ⟨rfl, hb1⟩
    rw [HB.out]
    have HB1 := Lib.hid hb1
    clear hb1
    go_wp2
    refine bodyPost_ret (v := .tuple #[.slice none 0 0, .int .i64 1]) (by simp [results, Tryz.results6, go_sem]) rfl ?_
    exact ⟨_, rfl, OwC.nil, HB1.out⟩
  · have HB := Lib.hid hop
    rw [trR_yes hop]
    clear hop
    go_enter Tryz.func6, Tryz.ntmps6
    go_wp2_with fail
    refine (HVF.out).mono ?_
    rintro e w1 ⟨rfl, hb1⟩
    rw [HB.out]
    have HL1 := Lib.hid ((RdS.below HL.out hb1).more hb1.size)
    have HB1 := Lib.hid hb1
    clear hb1
    go_wp2_with fail
    refine (l10Trace_any n v l w1 HL1.out HB.out).mono ?_
    rintro e w2 ⟨v2, rfl, ho2, hb2⟩
    have HFIN : Hid (GivesC w 47 6 (trGo l (newMc n) []).1.length (vE (trGo l (newMc n) []).1) (trGo l (newMc n) []).2 (.returned (.tuple #[v2, .int .i64 (trGo l (newMc n) []).2])) w2) := ⟨v2, rfl, ho2.wide HB1.out.size (Nat.le_refl _), HB1.out.trans (hb2.mono HB1.out.size)⟩
    generalize trGo l (newMc n) [] = R at *
    clear ho2 hb2
    go_wp2
    refine bodyPost_ret (v := .tuple #[v2, .int .i64 R.2]) (by simp [results, Tryz.results6, go_sem]) rfl ?_
    exact HFIN.out

end Go.Proofs.YthhpjgdeehcgjaaGreat

/-
  Traces in plain Lean: where the strands of a needle lie, and that crossings lie among the strands.
-/
namespace Go.Proofs.YthhpjgdeehcgjaaGreat
set_option linter.unusedVariables false
set_option linter.unusedSimpArgs false
open Go.RowKit

theorem crRow_in {p s : Int} {t : Nat} : ∀ {a : Nat} {c : Int × Int}, c ∈ crRow p s t a → ∃ k : Nat, k < a ∧ c = (p + (t : Int) + (k : Int), s)
  | 0, c, h => by simp [crRow] at h
  | a + 1, c, h => by
    rw [crRow] at h
    rcases List.mem_cons.1 h with h | h
    · exact ⟨a, by omega, h⟩
    · obtain ⟨k, hk, e⟩ := crRow_in h
      exact ⟨k, by omega, e⟩
theorem crL_in {p : Int} {a b : Nat} {s : Int} {c : Int × Int} (h : c ∈ crL p a b s) : p ≤ c.1 ∧ c.1 + 2 ≤ p + a + b ∧ c.2 = s := by
  unfold crL at h
  obtain ⟨t, ht, hc⟩ := List.mem_flatMap.1 h
  have := List.mem_range.1 ht
  obtain ⟨k, hk, rfl⟩ := crRow_in hc
  exact ⟨by show p ≤ p + (t : Int) + (k : Int); omega, by show p + (t : Int) + (k : Int) + 2 ≤ _; omega, rfl⟩
theorem two_at {l : List Nd} {a : Nat} (h : a + 1 < l.length) : ∃ P u v T, l = P ++ u :: v :: T ∧ P.length = a := by
  refine ⟨l.take a, l[a], l[a + 1], l.drop (a + 2), ?_, by rw [List.length_take]; omega⟩
  rw [← List.drop_eq_getElem_cons h, ← List.drop_eq_getElem_cons (by omega), List.take_append_drop]
theorem rkJ_in (m : Mc) (up : Bool) (l : List Nd) (a : Int) (bk : Nd) : szL m (rkJ m up l a bk).1 = szL m l ∧ ∀ c ∈ (rkJ m up l a bk).2, 0 ≤ c.1 ∧ c.1 + 2 ≤ (szL m l : Int) ∧ (c.2 = 1 ∨ c.2 = -1) := by
  by_cases h : a < 0 ∨ (l.length : Int) ≤ a + 1 ∨ (l[a.toNat]? ≠ some bk ∧ l[a.toNat + 1]? ≠ some bk)
  · rw [rkJ_no m up l a bk h]
    exact ⟨rfl, fun c hc => by simp at hc⟩
  · have h0 : 0 ≤ a := by have := (not_or.1 h).1; omega
    have h1 : a + 1 < l.length := by have := (not_or.1 (not_or.1 h).2).1; omega
    have h2 := (not_or.1 (not_or.1 h).2).2
    obtain ⟨P, u, v, T, rfl, hP⟩ := two_at (l := l) (a := a.toNat) (by omega)
    have ha : a = (P.length : Int) := by omega
    have hb : u = bk ∨ v = bk := by
      by_cases hu : u = bk
      · exact .inl hu
      · refine .inr (Classical.byContradiction fun hv => h2 ⟨?_, ?_⟩)
        · rw [← hP]
          simpa using hu
        · rw [← hP, List.getElem?_append_right (by omega)]
          simpa using hv
    rw [ha, rkJ_yes m up P T u v bk hb]
    refine ⟨by simp only [szL_append, szL_cons]; omega, fun c hc => ?_⟩
    obtain ⟨c1, c2, c3⟩ := crL_in hc
    simp only [szL_append, szL_cons]
    refine ⟨by omega, by omega, ?_⟩
    rw [c3]
    split
    · exact .inr rfl
    · exact .inl rfl
theorem rkG_in (m : Mc) (up : Bool) : ∀ (f i : Nat) (l : List Nd), ∀ c ∈ rkG m up f i l, 0 ≤ c.1 ∧ c.1 + 2 ≤ (szL m l : Int) ∧ (c.2 = 1 ∨ c.2 = -1)
  | 0, i, l, c, hc => by simp [rkG] at hc
  | f + 1, i, l, c, hc => by
    rw [rkG] at hc
    have hj := rkJ_in m up l ((l.idxOf ((1, (i : Int)) : Nd) : Int) - (if up = true then 1 else 0)) (2, (i : Int) - m.rk - (if up = true then 1 else 0))
    rcases List.mem_append.1 hc with hc | hc
    · exact hj.2 c hc
    · have := rkG_in m up f (i + 1) _ c hc
      rw [show szL m (rkI m up i l).1 = szL m l from hj.1] at this
      exact this
theorem tot_nd {m : Mc} (h : OkP m) : szL m (ndL m) = totN m := by
  rw [← live_tot h]
  unfold liveL szL
  rw [List.length_flatMap]
  rfl
theorem rkS_in {m : Mc} (h : OkP m) (up : Bool) : ∀ c ∈ rkS m up, 0 ≤ c.1 ∧ c.1 + 2 ≤ (totN m : Int) ∧ (c.2 = 1 ∨ c.2 = -1) := by
  rw [← rk_same h.wd.1 h.rk.1 up, ← tot_nd h]
  exact rkG_in m up _ _ _
theorem okP_rk {m : Mc} (h : OkP m) {r : Int} (h0 : -3 ≤ r) (h1 : r ≤ 3) : OkP (rkM m r) := okM_iff.1 (okM_rk (okM_iff.2 h) h0 h1)
theorem rkAll_in {r : Int} (h0 : -3 ≤ r) (h1 : r ≤ 3) : ∀ (j : Nat) {m : Mc}, OkP m → (r - m.rk).natAbs = j → ∀ c ∈ rkAll m r, 0 ≤ c.1 ∧ c.1 + 2 ≤ (totN m : Int) ∧ (c.2 = 1 ∨ c.2 = -1)
  | 0, m, h, hj, c, hc => by
    have hr : r = m.rk := by omega
    rw [hr, rkAll_eq] at hc
    simp at hc
  | j + 1, m, h, hj, c, hc => by
    have hk := h.rk
    by_cases hl : m.rk < r
    · rw [rkAll_up hl] at hc
      rcases List.mem_append.1 hc with hc | hc
      · exact rkS_in h true c hc
      · exact rkAll_in h0 h1 j (m := rkM m (m.rk + 1)) (okP_rk h (by omega) (by omega)) (by show (r - (m.rk + 1)).natAbs = j; omega) c hc
    · rw [rkAll_dn (by omega)] at hc
      rcases List.mem_append.1 hc with hc | hc
      · exact rkS_in h false c hc
      · exact rkAll_in h0 h1 j (m := rkM m (m.rk - 1)) (okP_rk h (by omega) (by omega)) (by show (r - (m.rk - 1)).natAbs = j; omega) c hc
/-- Where a needle stands in the order. -/
theorem nd_split {m : Mc} {n : Nd} (h : OkP m) (hn : ndOk m n) : ∃ P T, ndL m = P ++ n :: T ∧ (¬ n ∈ P) ∧ (¬ n ∈ T) ∧ szL m P = befS m n := by
  obtain ⟨hb, h0, h1⟩ := hn
  have hw := h.wd
  have hr := h.rk
  have hp := plc_rng (b := n.1) h0 h1 hr.1 hr.2
  have hm : n ∈ ndL m := ndGo_mem (ndX_mem hb h0 h1) _ _ hp.1 (by omega)
  obtain ⟨P, T, hPT⟩ := List.append_of_mem hm
  have hnd : (ndL m).Nodup := ndGo_nodup m _ _
  rw [hPT] at hnd
  obtain ⟨n1, n2, n3⟩ := List.nodup_append.1 hnd
  have hP : ¬ n ∈ P := fun e => n3 n e n (by simp) rfl
  have hT : ¬ n ∈ T := (List.nodup_cons.1 n2).1
  refine ⟨P, T, hPT, hP, hT, ?_⟩
  rw [← befI_eq ⟨hb, h0, h1⟩ hr]
  unfold befI
  rw [hPT, tw_stop hP]
/-- Where a needle's loops lie among the live ones. -/
theorem live_at {m : Mc} {n : Nd} (h : OkP m) (hn : ndOk m n) : ∃ P T, ndL m = P ++ n :: T ∧ (¬ n ∈ P) ∧ (¬ n ∈ T) ∧ liveL m = P.flatMap (onL m) ++ (onL m n ++ T.flatMap (onL m)) ∧ (P.flatMap (onL m)).length = befS m n := by
  obtain ⟨P, T, e, hP, hT, hs⟩ := nd_split h hn
  refine ⟨P, T, e, hP, hT, ?_, ?_⟩
  · unfold liveL
    rw [e, List.flatMap_append, List.flatMap_cons]
  · rw [← hs, List.length_flatMap]
    rfl
theorem bef_tot {m : Mc} {n : Nd} (h : OkP m) (hn : ndOk m n) : befS m n + szN m n ≤ totN m := by
  obtain ⟨P, T, e, hP, hT, hl, hs⟩ := live_at h hn
  have := live_tot h
  rw [hl] at this
  simp only [List.length_append] at this
  unfold szN
  omega
theorem ndGo_same {m m' : Mc} (hw : m'.wd = m.wd) (hr : m'.rk = m.rk) : ∀ (f : Nat) (x : Int), ndGo m' f x = ndGo m f x
  | 0, x => rfl
  | f + 1, x => by
    rw [ndGo_step, ndGo_step, ndGo_same hw hr f (x + 1)]
    unfold ndX
    rw [hw, hr]
theorem ndL_same {m m' : Mc} (hw : m'.wd = m.wd) (hr : m'.rk = m.rk) : ndL m' = ndL m := by
  unfold ndL
  rw [hw, ndGo_same hw hr]
theorem onL_away {m : Mc} {n k : Nd} (l : List Int) (hn : ndIn m n) (hk : ndIn m k) (hne : n ≠ k) : onL (setL m k l) n = onL m n := by
  by_cases h1 : n.1 = k.1
  · have h2 : n.2.toNat ≠ k.2.toNat := fun e => hne (Prod.ext h1 (by have := hn.2.1; have := hk.2.1; omega))
    unfold onL setL
    rw [h1]
    by_cases hb : k.1 = 2
    · rw [if_pos hb, if_pos hb, if_pos hb]
      show (m.bk.set k.2.toNat l).getD n.2.toNat [] = _
      rw [List.getD_eq_getElem?_getD, List.getElem?_set_ne (fun e => h2 e.symm), ← List.getD_eq_getElem?_getD]
    · rw [if_neg hb, if_neg hb, if_neg hb]
      show (m.fr.set k.2.toNat l).getD n.2.toNat [] = _
      rw [List.getD_eq_getElem?_getD, List.getElem?_set_ne (fun e => h2 e.symm), ← List.getD_eq_getElem?_getD]
  · exact onL_setL_ne l hn hk h1
/-- A knitted loop stands where those that it was knitted through stood. -/
theorem knit_at {m : Mc} {x : Opr} (h : OkP m) (hop : okOpW m.wd x = true) (hk : x.k = 1) :
    ∃ A B, liveL m = A ++ (onL m x.f ++ B) ∧ liveL (doTo m x) = A ++ ((m.ls.length : Int) :: B) ∧ A.length = befS m x.f ∧ (doTo m x).ls = m.ls ++ [⟨x.k, x.c, x.fb, x.fa, x.d, onL m x.f⟩] := by
  obtain ⟨hk0, hfw, htw⟩ := okOpW_iff.1 hop
  have hf : ndOk m x.f ∧ ndIn m x.f := by
    rcases okOp_kinds hk0 with ⟨_, _, a, _⟩ | ⟨e, _⟩ | ⟨e, _⟩ | ⟨e, _⟩ | ⟨e, _⟩ | ⟨e, _⟩ | ⟨e, _⟩
    · obtain ⟨a1, a2, a3⟩ := ndB_iff.1 a
      exact ⟨⟨a1, a2, hfw⟩, h.need a1 a2 hfw⟩
    all_goals omega
  obtain ⟨P, T, e, hP, hT, hl, hs⟩ := live_at h hf.1
  have hd : doTo m x = setL (addLp (carTo m x) x (onL m x.f)) x.f [(m.ls.length : Int)] := by
    rw [(do125 (.inl hk)).2]
    unfold fmTo
    rw [if_pos hk]
  obtain ⟨s1, s2, s3, s4, s5, s6, -⟩ := setL_fr (addLp (carTo m x) x (onL m x.f)) x.f [(m.ls.length : Int)]
  have hnd : ndL (doTo m x) = P ++ x.f :: T := by rw [hd, ndL_same (m := m) s3 s4, e]
  have hin : ∀ y : Nd, y ∈ ndL m → ndIn m y := fun y hy => by
    obtain ⟨b1, b2, b3⟩ := ndL_ok hy
    exact h.need b1 b2 b3
  have hon : ∀ y : Nd, y ∈ ndL m → y ≠ x.f → onL (doTo m x) y = onL m y := fun y hy hne => by
    rw [hd, onL_away _ (show ndIn (addLp (carTo m x) x (onL m x.f)) y from hin y hy) (show ndIn (addLp (carTo m x) x (onL m x.f)) x.f from hf.2) hne]
    rfl
  have hx : onL (doTo m x) x.f = [(m.ls.length : Int)] := by
    rw [hd]
    exact onL_setL _ (show ndIn (addLp (carTo m x) x (onL m x.f)) x.f from hf.2)
  have hfl : ∀ L : List Nd, (∀ y ∈ L, y ∈ ndL m ∧ y ≠ x.f) → L.flatMap (onL (doTo m x)) = L.flatMap (onL m) := by
    intro L
    induction L with
    | nil => intro _; rfl
    | cons a t ih =>
      intro ha
      rw [List.flatMap_cons, List.flatMap_cons, hon a (ha a (by simp)).1 (ha a (by simp)).2, ih fun y hy => ha y (by simp [hy])]
  refine ⟨P.flatMap (onL m), T.flatMap (onL m), hl, ?_, hs, ?_⟩
  · unfold liveL
    rw [hnd, List.flatMap_append, List.flatMap_cons, hx, hfl P fun y hy => ⟨by rw [e]; simp [hy], fun e => hP (e ▸ hy)⟩, hfl T fun y hy => ⟨by rw [e]; simp [hy], fun e => hT (e ▸ hy)⟩]
    rfl
  · rw [hd, s6]
    rfl

end Go.Proofs.YthhpjgdeehcgjaaGreat
