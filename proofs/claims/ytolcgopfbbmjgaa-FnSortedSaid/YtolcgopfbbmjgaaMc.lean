/-
  Machines as plain data; how they are read; rows of rows that are a call's own.
-/
import Derived.Test.YtolcgopfbbmjgaaNst
namespace Go.Proofs.Ytolcgopfbbmjgaa
set_option linter.unusedVariables false
set_option linter.unusedSimpArgs false
open Go.RowKit

structure Inf where
  k : Int
  y : Int
  b : Int
  p : Int
  d : Int
  ps : List Int
deriving DecidableEq
structure Car where
  i : Bool
  p : Int
deriving DecidableEq
structure Mc where
  wd : Int
  rk : Int
  fr : List (List Int)
  bk : List (List Int)
  cs : List Car
  ls : List Inf
  dr : List Int
deriving DecidableEq

abbrev Car.cells (c : Car) : List Value := [.bool c.i, .int .i64 c.p]
theorem Car.len (c : Car) : c.cells.length = 2 := rfl
abbrev RdCs := RdS Car.cells 2
def rLL (w : World) (B : Nat) (us : List Value) (x : List Int) : Prop := ∃ s, us = [s] ∧ RdI w B s x ∧ CapOk s
def rInf (w : World) (B : Nat) (us : List Value) (x : Inf) : Prop := ∃ s, us = [.int .i64 x.k, .int .i64 x.y, .int .i64 x.b, .int .i64 x.p, .int .i64 x.d, s] ∧ RdI w B s x.ps ∧ CapOk s
abbrev RdLL := RdN rLL 1
abbrev RdIs := RdN rInf 6
/-- A machine by value, all of its slices below block B. -/
def RdM (w : World) (B : Nat) (v : Value) (m : Mc) : Prop :=
  ∃ f b cs ls d, v = .agg #[.int .i64 m.wd, .int .i64 m.rk, f, b, cs, ls, d] ∧ RdLL w B f m.fr ∧ RdLL w B b m.bk ∧ RdCs w B cs m.cs ∧ RdIs w B ls m.ls ∧ RdI w B d m.dr ∧ CapOk d

theorem rLL_below {w w' : World} {B : Nat} (hb : Below B w w') (us : List Value) (x : List Int) (h : rLL w B us x) : rLL w' B us x := by
  obtain ⟨s, h1, h2, h3⟩ := h
  exact ⟨s, h1, h2.below hb, h3⟩
theorem rInf_below {w w' : World} {B : Nat} (hb : Below B w w') (us : List Value) (x : Inf) (h : rInf w B us x) : rInf w' B us x := by
  obtain ⟨s, h1, h2, h3⟩ := h
  exact ⟨s, h1, h2.below hb, h3⟩
theorem rLL_more {w : World} {B B' : Nat} (hB : B ≤ B') (us : List Value) (x : List Int) (h : rLL w B us x) : rLL w B' us x := by
  obtain ⟨s, h1, h2, h3⟩ := h
  exact ⟨s, h1, h2.more hB, h3⟩
theorem rInf_more {w : World} {B B' : Nat} (hB : B ≤ B') (us : List Value) (x : Inf) (h : rInf w B us x) : rInf w B' us x := by
  obtain ⟨s, h1, h2, h3⟩ := h
  exact ⟨s, h1, h2.more hB, h3⟩
theorem RdLL.below {w w' : World} {B : Nat} {v : Value} {l : List (List Int)} (h : RdLL w B v l) (hb : Below B w w') : RdLL w' B v l := RdN.below (rLL_below hb) h hb
theorem RdIs.below {w w' : World} {B : Nat} {v : Value} {l : List Inf} (h : RdIs w B v l) (hb : Below B w w') : RdIs w' B v l := RdN.below (rInf_below hb) h hb
theorem RdLL.more {w : World} {B B' : Nat} {v : Value} {l : List (List Int)} (h : RdLL w B v l) (hB : B ≤ B') : RdLL w B' v l := RdN.more (rLL_more hB) h hB
theorem RdIs.more {w : World} {B B' : Nat} {v : Value} {l : List Inf} (h : RdIs w B v l) (hB : B ≤ B') : RdIs w B' v l := RdN.more (rInf_more hB) h hB
theorem RdM.below {w w' : World} {B : Nat} {v : Value} {m : Mc} (h : RdM w B v m) (hb : Below B w w') : RdM w' B v m := by
  obtain ⟨f, b, cs, ls, d, e, h1, h2, h3, h4, h5, h6⟩ := h
  exact ⟨f, b, cs, ls, d, e, RdLL.below h1 hb, RdLL.below h2 hb, RdS.below h3 hb, RdIs.below h4 hb, h5.below hb, h6⟩
theorem RdM.more {w : World} {B B' : Nat} {v : Value} {m : Mc} (h : RdM w B v m) (hB : B ≤ B') : RdM w B' v m := by
  obtain ⟨f, b, cs, ls, d, e, h1, h2, h3, h4, h5, h6⟩ := h
  exact ⟨f, b, cs, ls, d, e, RdLL.more h1 hB, RdLL.more h2 hB, RdS.more h3 hB, RdIs.more h4 hB, h5.more hB, h6⟩
theorem RdM.up {w w' : World} {B : Nat} {v : Value} {m : Mc} (h : RdM w B v m) (hb : Below B w w') (hB : B ≤ w'.heap.size) : RdM w' w'.heap.size v m := (h.below hb).more hB
/-- One element of a slice of slices. -/
theorem RdLL.at_ {w : World} {B : Nat} {A : Option Addr} {n c : Nat} {l : List (List Int)} (h : RdLL w B (.slice A n c) l) {k : Nat} (hk : k < n) :
    ∃ b off x s, A = some ⟨b, off, none⟩ ∧ b < B ∧ l[k]? = some x ∧ w.cell? ⟨b, off + k, none⟩ = some s ∧ RdI w B s x := by
  obtain ⟨A', n', c', e, hn, hl, h⟩ := h
  injection e with e1 e2 e3
  subst e1 e2 e3
  obtain ⟨b, off, x, us, h1, h2, h3, h4, h5, s, rfl, h6, _⟩ := h k hk
  refine ⟨b, off, x, s, h1, h2, h3, ?_, h6⟩
  have := h5 0 s rfl
  simpa using this
theorem RdIs.at_ {w : World} {B : Nat} {A : Option Addr} {n c : Nat} {l : List Inf} (h : RdIs w B (.slice A n c) l) {k : Nat} (hk : k < n) :
    ∃ b off x s, A = some ⟨b, off, none⟩ ∧ b < B ∧ l[k]? = some x ∧ CellsAt w b (off + k * 6) [.int .i64 x.k, .int .i64 x.y, .int .i64 x.b, .int .i64 x.p, .int .i64 x.d, s] ∧ RdI w B s x.ps := by
  obtain ⟨A', n', c', e, hn, hl, h⟩ := h
  injection e with e1 e2 e3
  subst e1 e2 e3
  obtain ⟨b, off, x, us, h1, h2, h3, h4, h5, s, rfl, h6, _⟩ := h k hk
  exact ⟨b, off, x, s, h1, h2, h3, h5, h6⟩
theorem RdIs.at_cap {w : World} {B : Nat} {A : Option Addr} {n c : Nat} {l : List Inf} (h : RdIs w B (.slice A n c) l) {k : Nat} (hk : k < n) :
    ∃ b off x A1 c1, A = some ⟨b, off, none⟩ ∧ b < B ∧ l[k]? = some x ∧ CellsAt w b (off + k * 6) [.int .i64 x.k, .int .i64 x.y, .int .i64 x.b, .int .i64 x.p, .int .i64 x.d, .slice A1 x.ps.length c1] ∧ RdI w B (.slice A1 x.ps.length c1) x.ps ∧ x.ps.length ≤ c1 := by
  obtain ⟨A', n', c', e, hn, hl, h⟩ := h
  injection e with e1 e2 e3
  subst e1 e2 e3
  obtain ⟨b, off, x, us, h1, h2, h3, h4, h5, s, rfl, h6, A1, n1, c1, rfl, h7⟩ := h k hk
  obtain ⟨A2, c2, e2⟩ := h6.len
  injection e2 with e3 e4 e5
  subst e3 e4 e5
  exact ⟨b, off, x, A1, c1, h1, h2, h3, h5, h6, h7⟩
/-! ### The sizes -/
def szLLd (left : Int) (l : List (List Int)) : Int := if (l.length : Int) ≤ left then szGo List.length (left - l.length) l else -1
abbrev infL (x : Inf) : Nat := x.ps.length
def szIsd (left : Int) (l : List Inf) : Int := if (l.length : Int) ≤ left then szGo infL (left - l.length) l else -1
def szM (left : Int) (m : Mc) : Int :=
  let z1 := szLLd left m.fr
  if z1 < 0 then -1 else
  let z2 := szLLd z1 m.bk
  if z2 < 0 then -1 else
  let z3 := szOfM z2 m.cs.length
  if z3 < 0 then -1 else
  let z4 := szIsd z3 m.ls
  if z4 < 0 then -1 else szOfM z4 m.dr.length
/-- What fits: all lengths. -/
structure FitM (m : Mc) : Prop where
  fr : m.fr.length ≤ 1048576
  bk : m.bk.length ≤ 1048576
  cs : m.cs.length ≤ 1048576
  ls : m.ls.length ≤ 1048576
  dr : m.dr.length ≤ 1048576
  frs : ∀ x ∈ m.fr, x.length ≤ 1048576
  bks : ∀ x ∈ m.bk, x.length ≤ 1048576
  lss : ∀ x ∈ m.ls, x.ps.length ≤ 1048576
theorem szLLd_pos {left : Int} {l : List (List Int)} (h : ¬ szLLd left l < 0) : szLLd left l ≤ left ∧ (l.length : Int) ≤ left ∧ ∀ x ∈ l, (x.length : Int) ≤ left := by
  unfold szLLd at h ⊢
  split at h
  · rename_i hl
    rw [if_pos hl]
    obtain ⟨h1, h2⟩ := szGo_pos List.length l _ (Int.not_lt.1 h)
    exact ⟨by omega, hl, fun x hx => by have := h2 x hx; omega⟩
  · omega
theorem szIsd_pos {left : Int} {l : List Inf} (h : ¬ szIsd left l < 0) : szIsd left l ≤ left ∧ (l.length : Int) ≤ left ∧ ∀ x ∈ l, (x.ps.length : Int) ≤ left := by
  unfold szIsd at h ⊢
  split at h
  · rename_i hl
    rw [if_pos hl]
    obtain ⟨h1, h2⟩ := szGo_pos infL l _ (Int.not_lt.1 h)
    exact ⟨by omega, hl, fun x hx => by have h3 : (x.ps.length : Int) ≤ left - l.length := h2 x hx; omega⟩
  · omega
theorem szM_pos {m : Mc} {z : Int} (h : szM 1048576 m = z) (hz : 0 ≤ z) : FitM m ∧ z ≤ 1048576 := by
  unfold szM at h
  simp only at h
  by_cases h1 : szLLd 1048576 m.fr < 0
  · rw [if_pos h1] at h; omega
  rw [if_neg h1] at h
  by_cases h2 : szLLd (szLLd 1048576 m.fr) m.bk < 0
  · rw [if_pos h2] at h; omega
  rw [if_neg h2] at h
  generalize hz2 : szLLd (szLLd 1048576 m.fr) m.bk = z2 at *
  by_cases h3 : szOfM z2 m.cs.length < 0
  · rw [if_pos h3] at h; omega
  rw [if_neg h3] at h
  generalize hz3 : szOfM z2 m.cs.length = z3 at *
  by_cases h4 : szIsd z3 m.ls < 0
  · rw [if_pos h4] at h; omega
  rw [if_neg h4] at h
  obtain ⟨a1, a2, a3⟩ := szLLd_pos h1
  have b := szLLd_pos (hz2 ▸ h2)
  rw [hz2] at b
  obtain ⟨b1, b2, b3⟩ := b
  have c := szOfM_pos (hz3 ▸ h3)
  rw [hz3] at c
  obtain ⟨c1, c2⟩ := c
  obtain ⟨d1, d2, d3⟩ := szIsd_pos h4
  have e := szOfM_pos (left := szIsd z3 m.ls) (n := m.dr.length) (by rw [h]; omega)
  rw [h] at e
  obtain ⟨e1, e2⟩ := e
  exact ⟨⟨by omega, by omega, by omega, by omega, by omega, fun x hx => by have := a3 x hx; omega, fun x hx => by have := b3 x hx; omega, fun x hx => by have := d3 x hx; omega⟩, by omega⟩

/-! ### Rows of rows that are a call's own -/
def oLL (w : World) (lo hi : Nat) (us : List Value) (x : List Int) : Prop := ∃ s, us = [s] ∧ OwC w lo hi 2 1 s x.length (vI x)
def oInf (w : World) (lo hi : Nat) (us : List Value) (x : Inf) : Prop := ∃ s, us = [.int .i64 x.k, .int .i64 x.y, .int .i64 x.b, .int .i64 x.p, .int .i64 x.d, s] ∧ OwC w lo hi 2 1 s x.ps.length (vI x.ps)

theorem oLL_rd {w : World} {lo hi : Nat} {us : List Value} {x : List Int} (h : oLL w lo hi us x) : rLL w hi us x := by
  obtain ⟨s, h1, h2⟩ := h
  exact ⟨s, h1, RdI.of_own h2, h2.cap⟩
theorem oInf_rd {w : World} {lo hi : Nat} {us : List Value} {x : Inf} (h : oInf w lo hi us x) : rInf w hi us x := by
  obtain ⟨s, h1, h2⟩ := h
  exact ⟨s, h1, RdI.of_own h2, h2.cap⟩
theorem oLL_keep {w w' : World} {lo hi : Nat} (hk : ∀ g, lo ≤ g → g < hi → w'.heap[g]? = w.heap[g]?) (a b : Nat) (us : List Value) (x : List Int) (ha : lo ≤ a) (hb : b ≤ hi) (h : oLL w a b us x) : oLL w' a b us x := by
  obtain ⟨s, h1, h2⟩ := h
  exact ⟨s, h1, h2.keep fun g hg0 hg1 => hk g (by omega) (by omega)⟩
theorem oInf_keep {w w' : World} {lo hi : Nat} (hk : ∀ g, lo ≤ g → g < hi → w'.heap[g]? = w.heap[g]?) (a b : Nat) (us : List Value) (x : Inf) (ha : lo ≤ a) (hb : b ≤ hi) (h : oInf w a b us x) : oInf w' a b us x := by
  obtain ⟨s, h1, h2⟩ := h
  exact ⟨s, h1, h2.keep fun g hg0 hg1 => hk g (by omega) (by omega)⟩
end Go.Proofs.Ytolcgopfbbmjgaa
