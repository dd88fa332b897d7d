/-
  Texts joined: McYarn, McFab.
-/
import Derived.Test.YthhpjgdeehcgjaaGreatMcApart
import Derived.Test.YthhpjgdeehcgjaaGreatMcAsk0
/-
  The loops of a carrier: yarn of the program, l11Yarn of the reference.
-/
namespace Go.Proofs.YthhpjgdeehcgjaaGreat
set_option linter.unusedVariables false
set_option linter.unusedSimpArgs false
open Go.RowKit

theorem int_one (n : Int) : ∀ u ∈ [Value.int .i64 n], u.oneCell' = true := by
  intro u hu
  simp at hu
  subst hu
  rfl
theorem vI_snoc (acc : List Int) (n : Int) : vI (acc ++ [n]) = vI acc ++ [.int .i64 n] := by simp [vI]



end Go.Proofs.YthhpjgdeehcgjaaGreat

/-
  Machines behind a pointer; what the program and the reference tell of loops, as plain data.
-/
namespace Go.Proofs.YthhpjgdeehcgjaaGreat
set_option linter.unusedVariables false
set_option linter.unusedSimpArgs false
open Go.RowKit

/-- A machine behind a pointer. -/
def RdP (w : World) (g : Nat) (m : Mc) : Prop :=
  ∃ F G C L D, CellsAt w g 0 [.int .i64 m.wd, .int .i64 m.rk, F, G, C, L, D] ∧ RdLL w w.heap.size F m.fr ∧ RdLL w w.heap.size G m.bk ∧ RdCs w w.heap.size C m.cs ∧ RdIs w w.heap.size L m.ls ∧ RdI w w.heap.size D m.dr ∧ CapOk D
theorem RdP.lt {w : World} {g : Nat} {m : Mc} (h : RdP w g m) : g < w.heap.size := by
  obtain ⟨F, G, C, L, D, hc, _⟩ := h
  exact block_lt_of_cell hc.seven.1
theorem RdP.below {w w' : World} {g : Nat} {m : Mc} (h : RdP w g m) (hb : Below w.heap.size w w') : RdP w' g m := by
  have hg := h.lt
  obtain ⟨F, G, C, L, D, hc, h1, h2, h3, h4, h5, h6⟩ := h
  exact ⟨F, G, C, L, D, hc.below hb hg, RdLL.more (RdLL.below h1 hb) hb.size, RdLL.more (RdLL.below h2 hb) hb.size, (RdS.below h3 hb).more hb.size, RdIs.more (RdIs.below h4 hb) hb.size, (h5.below hb).more hb.size, h6⟩
theorem RdP.box {w : World} {m : Mc} {F G C L D : Value} {T : TypeId} (h1 : RdLL w w.heap.size F m.fr) (h2 : RdLL w w.heap.size G m.bk) (h3 : RdCs w w.heap.size C m.cs) (h4 : RdIs w w.heap.size L m.ls) (h5 : RdI w w.heap.size D m.dr) (h6 : CapOk D) :
    RdP (w.alloc (.cells #[.int .i64 m.wd, .int .i64 m.rk, F, G, C, L, D] T)) w.heap.size m := by
  have hb : Below w.heap.size w (w.alloc (.cells #[.int .i64 m.wd, .int .i64 m.rk, F, G, C, L, D] T)) := (Below.refl _ _).alloc (Nat.le_refl _) _
  refine ⟨F, G, C, L, D, fun j u hu => ?_, RdLL.more (RdLL.below h1 hb) hb.size, RdLL.more (RdLL.below h2 hb) hb.size, (RdS.below h3 hb).more hb.size, RdIs.more (RdIs.below h4 hb) hb.size, (h5.below hb).more hb.size, h6⟩
  rcases j with _ | _ | _ | _ | _ | _ | _ | j <;> simp at hu <;> subst hu <;> simp [go_sem]

/-! ### A window of the heap that stays as it is while a row of the call's own grows elsewhere -/
def Same (lo hi : Nat) (w w' : World) : Prop := ∀ g, lo ≤ g → g < hi → w'.heap[g]? = w.heap[g]?
def Outs (lo hi : Nat) (v : Value) : Prop := ∀ g, v.ownBlock = some g → g < lo ∨ hi ≤ g
theorem Same.refl (lo hi : Nat) (w : World) : Same lo hi w w := fun _ _ _ => rfl
theorem Same.trans {lo hi : Nat} {a b c : World} (h : Same lo hi a b) (k : Same lo hi b c) : Same lo hi a c := fun g h1 h2 => (k g h1 h2).trans (h g h1 h2)
theorem Same.of_below {lo hi B : Nat} {b c : World} (hb : Below B b c) (hB : hi ≤ B) : Same lo hi b c := fun g _ h2 => hb.block g (by omega)
theorem Same.below {lo hi B : Nat} {a b c : World} (h : Same lo hi a b) (hb : Below B b c) (hB : hi ≤ B) : Same lo hi a c := h.trans (Same.of_below hb hB)
theorem Same.alloc {lo hi : Nat} {a b : World} (h : Same lo hi a b) (hs : hi ≤ b.heap.size) (o : Obj) : Same lo hi a (b.alloc o) := h.below ((Below.refl _ _).alloc (Nat.le_refl _) o) hs
theorem Same.grown {lo hi : Nat} {a b c : World} {v : Value} (h : Same lo hi a b) (hg : b.grownBy c v.ownBlock) (ho : Outs lo hi v) (hs : hi ≤ b.heap.size) : Same lo hi a c :=
  h.trans fun g h1 h2 => hg.block g (by omega) (fun e => by have := ho g e.symm; omega)
theorem Same.setCell {lo hi : Nat} {a b : World} (h : Same lo hi a b) {p : Addr} (hp : p.block < lo ∨ hi ≤ p.block) (u : Value) : Same lo hi a (b.setCell p u) := h.trans fun g h1 h2 => Below.heap_setCell _ _ _ _ (by omega)
theorem Outs.grown {lo hi : Nat} {v v' : Value} {n : Nat} (h : Outs lo hi v) (ha : v'.ownBlock = v.ownBlock ∨ v'.ownBlock = some n) (hs : hi ≤ n) : Outs lo hi v' := fun g hg => by
  rcases ha with ha | ha
  · exact h g (ha ▸ hg)
  · rw [ha] at hg; injection hg with hg; omega
theorem OwC.same {w w' : World} {lo hi E sz n : Nat} {v : Value} {xs : List Value} (h : OwC w lo hi E sz v n xs) (s : Same lo hi w w') : OwC w' lo hi E sz v n xs := h.keep s

/-! ### Needles and the loops on them -/
def ndX (m : Mc) (x : Int) : List (Int × Int) := (if inB 0 x (m.wd - 1) = true then [(1, x)] else []) ++ (if inB 0 (x - m.rk) (m.wd - 1) = true then [(2, x - m.rk)] else [])
def ndGo (m : Mc) : Nat → Int → List (Int × Int)
  | 0, _ => []
  | f + 1, x => ndX m x ++ ndGo m f (x + 1)
def ndL (m : Mc) : List (Int × Int) := ndGo m (m.wd.toNat + 6) (-3)
def onL (m : Mc) (n : Int × Int) : List Int := if n.1 = 2 then m.bk.getD n.2.toNat [] else m.fr.getD n.2.toNat []
def liveL (m : Mc) : List Int := (ndL m).flatMap (onL m)
def ndOk (m : Mc) (n : Int × Int) : Prop := (n.1 = 1 ∨ n.1 = 2) ∧ 0 ≤ n.2 ∧ n.2 < m.wd
theorem ndX_ok {m : Mc} {x : Int} {n : Int × Int} (h : n ∈ ndX m x) : ndOk m n := by
  unfold ndX at h
  rcases List.mem_append.1 h with h | h
  · split at h
    · rename_i hi
      simp at h
      subst h
      have := inB_iff.1 hi
      exact ⟨.inl rfl, by simp; omega, by simp; omega⟩
    · simp at h
  · split at h
    · rename_i hi
      simp at h
      subst h
      have := inB_iff.1 hi
      exact ⟨.inr rfl, by simp; omega, by simp; omega⟩
    · simp at h
theorem ndGo_ok {m : Mc} : ∀ {f : Nat} {x : Int} {n : Int × Int}, n ∈ ndGo m f x → ndOk m n
  | 0, x, n, h => by simp [ndGo] at h
  | f + 1, x, n, h => by
    rw [ndGo] at h
    rcases List.mem_append.1 h with h | h
    · exact ndX_ok h
    · exact ndGo_ok h
theorem ndL_ok {m : Mc} {n : Int × Int} (h : n ∈ ndL m) : ndOk m n := ndGo_ok h
theorem ndX_len (m : Mc) (x : Int) : (ndX m x).length ≤ 2 := by
  unfold ndX
  rw [List.length_append]
  split <;> split <;> simp
theorem ndGo_len (m : Mc) : ∀ (f : Nat) (x : Int), (ndGo m f x).length ≤ 2 * f
  | 0, x => by simp [ndGo]
  | f + 1, x => by
    have h1 := ndX_len m x
    have h2 := ndGo_len m f (x + 1)
    rw [ndGo, List.length_append]
    omega
theorem ok_head {m : Mc} (h : okM m = true) : headM m = true := by
  unfold okM at h
  simp at h
  exact h.1
theorem ok_lens {m : Mc} (h : okM m = true) : lens4 m.fr = true ∧ lens4 m.bk = true := by
  unfold okM at h
  simp at h
  exact ⟨h.2.1, h.2.2.1⟩
theorem ok_wd {m : Mc} (h : okM m = true) : 1 ≤ m.wd ∧ m.wd ≤ 24 ∧ -3 ≤ m.rk ∧ m.rk ≤ 3 ∧ (m.fr.length : Int) = m.wd ∧ (m.bk.length : Int) = m.wd ∧ m.cs.length = 4 := by
  have hh := headM_yes (ok_head h)
  have h1 := inB_iff.1 hh.1
  have h2 := inB_iff.1 hh.2.1
  have h3 := hh.2.2.1
  have h4 := hh.2.2.2.1
  simp at h3 h4
  exact ⟨h1.1, h1.2, h2.1, h2.2, h3, h4, hh.2.2.2.2.2.2.2.2.2.2⟩
theorem onL_len {m : Mc} (h : okM m = true) (n : Int × Int) : (onL m n).length ≤ 4 := by
  obtain ⟨h1, h2⟩ := ok_lens h
  unfold lens4 at h1 h2
  simp at h1 h2
  unfold onL
  split
  · rw [List.getD_eq_getElem?_getD]
    cases hx : m.bk[n.2.toNat]? with
    | none => simp
    | some x => exact h2 x (List.mem_of_getElem? hx)
  · rw [List.getD_eq_getElem?_getD]
    cases hx : m.fr[n.2.toNat]? with
    | none => simp
    | some x => exact h1 x (List.mem_of_getElem? hx)
theorem ndL_len {m : Mc} (h : okM m = true) : (ndL m).length ≤ 60 := by
  have h1 := ndGo_len m (m.wd.toNat + 6) (-3)
  have h2 := ok_wd h
  unfold ndL
  omega
end Go.Proofs.YthhpjgdeehcgjaaGreat
