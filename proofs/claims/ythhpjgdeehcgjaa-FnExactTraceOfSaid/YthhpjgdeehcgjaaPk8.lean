/-
  Texts joined: Crs, DrA, DrB, Ms4, DrC.
-/
import Derived.Test.YthhpjgdeehcgjaaMcAsk0
import Derived.Test.YthhpjgdeehcgjaaPk7
import Derived.Test.YthhpjgdeehcgjaaPk5
import Derived.Deep.DeepCutAuto
import Derived.Deep.CutRange
import Derived.Test.YthhpjgdeehcgjaaPk3
import Derived.Test.YthhpjgdeehcgjaaPk6
/-
  Courses, in plain Lean; the greater of two numbers.
-/
namespace Go.Proofs.Ythhpjgdeehcgjaa
set_option linter.unusedVariables false
set_option linter.unusedSimpArgs false
open Go.RowKit

/-- A course's growth by one parent; the course of a loop; the courses of all. -/
def cmx (acc : List Int) (n p : Int) : Int := max n (acc.getD p.toNat 0 + 1)
def cst (acc : List Int) (x : Inf) : Int := x.ps.foldl (cmx acc) 0
def cgo : List Int → List Inf → List Int
  | acc, [] => acc
  | acc, x :: t => cgo (acc ++ [cst acc x]) t
theorem cgo_pre : ∀ (l : List Inf) (acc : List Int), ∃ r, cgo acc l = acc ++ r
  | [], acc => ⟨[], by simp [cgo]⟩
  | x :: t, acc => by
    obtain ⟨r, h⟩ := cgo_pre t (acc ++ [cst acc x])
    exact ⟨cst acc x :: r, by rw [cgo, h, List.append_assoc]; rfl⟩
theorem cgo_at {l : List Inf} {acc : List Int} {j : Nat} (h : j < acc.length) : (cgo acc l).getD j 0 = acc.getD j 0 := by
  obtain ⟨r, e⟩ := cgo_pre l acc
  rw [e, List.getD_eq_getElem?_getD, List.getD_eq_getElem?_getD, List.getElem?_append_left h]
theorem cgo_next {l : List Inf} {acc : List Int} {k : Nat} {x : Inf} {R : List Int} (h : R = cgo acc (l.drop k)) (hx : l[k]? = some x) : R = cgo (acc ++ [cst acc x]) (l.drop (k + 1)) := by
  rw [h, drop_of_get hx, cgo]

/-- The courses so far: each at most its place. -/
def Small (acc : List Int) : Prop := ∀ (j : Nat) (z : Int), acc[j]? = some z → 0 ≤ z ∧ z ≤ j
theorem fold_small {acc : List Int} (hs : Small acc) : ∀ (ps : List Int) (n : Int), (∀ p ∈ ps, 0 ≤ p ∧ p < acc.length) → 0 ≤ n → n ≤ acc.length → 0 ≤ ps.foldl (cmx acc) n ∧ ps.foldl (cmx acc) n ≤ acc.length
  | [], n, _, h0, h1 => ⟨h0, h1⟩
  | p :: t, n, hp, h0, h1 => by
    obtain ⟨p0, p1⟩ := hp p (by simp)
    obtain ⟨q, rfl⟩ := Int.eq_ofNat_of_zero_le p0
    have hq : q < acc.length := by omega
    have hz := hs q _ (List.getElem?_eq_getElem hq)
    have hc : cmx acc n (q : Int) = max n (acc[q] + 1) := by unfold cmx; rw [show ((q : Int)).toNat = q by omega, List.getD_eq_getElem?_getD, List.getElem?_eq_getElem hq]; rfl
    rw [List.foldl_cons, hc]
    exact fold_small hs t _ (fun r hr => hp r (by simp [hr])) (by omega) (by omega)
theorem small_next {acc : List Int} {x : Inf} (hs : Small acc) (hp : ∀ p ∈ x.ps, 0 ≤ p ∧ p < acc.length) : Small (acc ++ [cst acc x]) := by
  intro j z hz
  by_cases hj : j < acc.length
  · rw [List.getElem?_append_left hj] at hz
    exact hs j z hz
  · rw [List.getElem?_append_right (by omega)] at hz
    have h1 := fold_small hs x.ps 0 hp (by omega) (by omega)
    have hj2 : j - acc.length = 0 := by
      have := (List.getElem?_eq_some_iff.1 hz).1
      simp at this
      omega
    rw [hj2] at hz
    simp at hz
    subst hz
    unfold cst
    omega

theorem cgo_len : ∀ (l : List Inf) (acc : List Int), (cgo acc l).length = acc.length + l.length
  | [], acc => by simp [cgo]
  | x :: t, acc => by rw [cgo, cgo_len t]; simp; omega

end Go.Proofs.Ythhpjgdeehcgjaa

/-
  Draws of needles and operations: OtherBed, l01DrawNeedle.
-/
namespace Go.Proofs.Ythhpjgdeehcgjaa
set_option linter.unusedVariables false
set_option linter.unusedSimpArgs false
open Go.RowKit

/-- A needle that was drawn. -/
def DrawnNd (w : World) (g : Nat) (K wd : Int) (e : Ending) (w' : World) : Prop := ∃ b a, e = .returned (.agg #[.int .i64 b, .int .i64 a]) ∧ (b = 1 ∨ b = 2) ∧ 0 ≤ a ∧ a < wd ∧ Src w' g K ∧ Only g (g + 1) w w'
theorem keep_cells {w w' : World} {g b : Nat} (h : Only g (g + 1) w w') (hb : b < w.heap.size) (hg : b ≠ g) : (∀ o, w'.cell? ⟨b, o, none⟩ = w.cell? ⟨b, o, none⟩) ∧ ∀ o, w'.frozen? ⟨b, o, none⟩ = w.frozen? ⟨b, o, none⟩ :=
  ⟨fun o => World.cell?_of_block (a := ⟨b, o, none⟩) (h.block b hb (by omega)), fun o => World.frozen?_of_block (a := ⟨b, o, none⟩) (h.block b hb (by omega))⟩

theorem ok_form {wd k d b a c : Int} (hk : k = 1 ∨ k = 2 ∨ k = 3) (hd : d = 1 ∨ d = -1) (hb : b = 1 ∨ b = 2) (h0 : 0 ≤ a) (h1 : a < wd) (hw : wd ≤ 24) (hc : c = 1 ∨ c = 2) : okOpW wd ⟨k, d, b, a, 0, 0, c, 0⟩ = true := by
  rw [okOpW_iff]
  refine ⟨?_, h1, by show (0 : Int) < wd; omega⟩
  unfold okOp
  rw [if_pos hk]
  simp only [Bool.and_eq_true, decide_eq_true_eq, dirM_iff, inB_iff, ndB_iff, and_true]
  omega
theorem ok_xfer {wd b a t : Int} (hb : b = 1 ∨ b = 2) (h0 : 0 ≤ a) (h1 : a < wd) (hw : wd ≤ 24) (t0 : 0 ≤ t) (t1 : t < wd) : okOpW wd ⟨4, 0, b, a, 3 - b, t, 0, 0⟩ = true := by
  rw [okOpW_iff]
  refine ⟨?_, h1, t1⟩
  unfold okOp
  simp only [Bool.and_eq_true, decide_eq_true_eq, dirM_iff, inB_iff, ndB_iff, show ¬ ((4 : Int) = 1 ∨ (4 : Int) = 2 ∨ (4 : Int) = 3) by omega, if_false, if_true, and_true]
  omega
theorem ok_split {wd d b a t c : Int} (hd : d = 1 ∨ d = -1) (hb : b = 1 ∨ b = 2) (h0 : 0 ≤ a) (h1 : a < wd) (hw : wd ≤ 24) (t0 : 0 ≤ t) (t1 : t < wd) (hc : c = 1 ∨ c = 2) : okOpW wd ⟨5, d, b, a, 3 - b, t, c, 0⟩ = true := by
  rw [okOpW_iff]
  refine ⟨?_, h1, t1⟩
  unfold okOp
  simp only [Bool.and_eq_true, decide_eq_true_eq, dirM_iff, inB_iff, ndB_iff, show ¬ ((5 : Int) = 1 ∨ (5 : Int) = 2 ∨ (5 : Int) = 3) by omega, show ¬ (5 : Int) = 4 by omega, if_false, if_true, and_true]
  omega
theorem ok_drop {wd b a : Int} (hb : b = 1 ∨ b = 2) (h0 : 0 ≤ a) (h1 : a < wd) (hw : wd ≤ 24) : okOpW wd ⟨6, 0, b, a, 0, 0, 0, 0⟩ = true := by
  rw [okOpW_iff]
  refine ⟨?_, h1, by show (0 : Int) < wd; omega⟩
  unfold okOp
  simp [ndB_iff]
  omega
theorem ok_rack {wd r : Int} (h0 : -2 ≤ r) (h1 : r ≤ 2) (hw : 1 ≤ wd) : okOpW wd ⟨7, 0, 0, 0, 0, 0, 0, r⟩ = true := by
  rw [okOpW_iff]
  refine ⟨?_, by show (0 : Int) < wd; omega, by show (0 : Int) < wd; omega⟩
  unfold okOp
  simp [inB_iff]
  omega
theorem ok_in {wd c : Int} (hc : c = 1 ∨ c = 2) (hw : 1 ≤ wd) : okOpW wd ⟨8, 1, 0, 0, 0, 0, c, 0⟩ = true := by
  rw [okOpW_iff]
  refine ⟨?_, by show (0 : Int) < wd; omega, by show (0 : Int) < wd; omega⟩
  unfold okOp
  simp [inB_iff, dirM_iff]
  omega
theorem ok_out {wd c : Int} (hc : c = 1 ∨ c = 2) (hw : 1 ≤ wd) : okOpW wd ⟨9, 0, 0, 0, 0, 0, c, 0⟩ = true := by
  rw [okOpW_iff]
  refine ⟨?_, by show (0 : Int) < wd; omega, by show (0 : Int) < wd; omega⟩
  unfold okOp
  simp [inB_iff]
  omega

end Go.Proofs.Ythhpjgdeehcgjaa

/-
  A draw of an operation: l07DrawOp.
-/
namespace Go.Proofs.Ythhpjgdeehcgjaa
set_option linter.unusedVariables false
set_option linter.unusedSimpArgs false
open Go.RowKit

/-- A box: its cells, not frozen. -/
def Bx (w : World) (g : Nat) (us : List Value) : Prop := CellsAt w g 0 us ∧ (∀ i, w.frozen? ⟨g, i, none⟩ = false) ∧ g < w.heap.size
theorem Bx.new (w : World) (us : List Value) (t : TypeId) : Bx (w.alloc (.cells us.toArray t)) w.heap.size us :=
  ⟨CellsAt.of_alloc, fun i => frozen_of_row _ _ i _ _ (heap_alloc_new w _), by rw [World.size_alloc]; exact Nat.lt_succ_self _⟩
theorem Bx.keep {w w' : World} {g : Nat} {us : List Value} (h : Bx w g us) (hk : w'.heap[g]? = w.heap[g]?) (hs : w.heap.size ≤ w'.heap.size) : Bx w' g us :=
  ⟨fun j u hu => (World.cell?_of_block (a := ⟨g, 0 + j, none⟩) hk).trans (h.1 j u hu), fun i => (World.frozen?_of_block (a := ⟨g, i, none⟩) hk).trans (h.2.1 i), Nat.lt_of_lt_of_le h.2.2 hs⟩
theorem Bx.only {w w' : World} {g gs : Nat} {us : List Value} (h : Bx w g us) (ho : Only gs (gs + 1) w w') (hg : g ≠ gs) : Bx w' g us := h.keep (ho.block g h.2.2 (by omega)) ho.size
theorem Bx.below {w w' : World} {g B : Nat} {us : List Value} (h : Bx w g us) (hb : Below B w w') (hg : g < B) : Bx w' g us := h.keep (hb.block g hg) hb.size
theorem Bx.alloc {w : World} {g : Nat} {us : List Value} (h : Bx w g us) (o : Obj) : Bx (w.alloc o) g us := h.below ((Below.refl w.heap.size w).alloc (Nat.le_refl _) o) h.2.2
theorem Bx.drew {w : World} {g : Nat} {us : List Value} (h : Bx w g us) : Bx w.drew g us := h
theorem Bx.two {w : World} {g : Nat} {u0 u1 : Value} (h : Bx w g [u0, u1]) : w.cell? ⟨g, 0, none⟩ = some u0 ∧ w.cell? ⟨g, 1, none⟩ = some u1 := CellsAt.two h.1
theorem Bx.eight {w : World} {g : Nat} {u0 u1 u2 u3 u4 u5 u6 u7 : Value} (h : Bx w g [u0, u1, u2, u3, u4, u5, u6, u7]) : w.cell? ⟨g, 0, none⟩ = some u0 ∧ w.cell? ⟨g, 1, none⟩ = some u1 ∧ w.cell? ⟨g, 2, none⟩ = some u2 ∧ w.cell? ⟨g, 3, none⟩ = some u3 ∧ w.cell? ⟨g, 4, none⟩ = some u4 ∧ w.cell? ⟨g, 5, none⟩ = some u5 ∧ w.cell? ⟨g, 6, none⟩ = some u6 ∧ w.cell? ⟨g, 7, none⟩ = some u7 := by
  obtain ⟨h0, h1, h2, h3, h4, h5, h6, h7⟩ := CellsAt.eight h.1
  exact ⟨h0, h1, h2, h3, h4, h5, h6, h7⟩
theorem Bx.far {w : World} {g g' : Nat} {us : List Value} (h : Bx w g us) (hg : g ≠ g') (i : Nat) (u : Value) : Bx (w.setCell ⟨g', i, none⟩ u) g us := h.keep (Below.heap_setCell _ _ _ _ hg) (by simp)
theorem Bx.set {w : World} {g i : Nat} {us : List Value} (h : Bx w g us) (hi : i < us.length) (u : Value) : Bx (w.setCell ⟨g, i, none⟩ u) g (us.set i u) := by
  refine ⟨fun j v hj => ?_, fun j => setCell_frozen h.2.1 j, by simp; exact h.2.2⟩
  rw [Nat.zero_add]
  by_cases e : j = i
  · subst e
    rw [List.getElem?_set_self hi] at hj
    injection hj with hj
    subst hj
    have := h.1 j us[j] (List.getElem?_eq_getElem hi)
    rw [Nat.zero_add] at this
    exact cell_set_same this
  · rw [List.getElem?_set_ne (fun e' => e e'.symm)] at hj
    have := h.1 j v hj
    rw [Nat.zero_add] at this
    rw [near_cell (fun e' => e e'.symm)]
    exact this
theorem Src.setNew {w : World} {g : Nat} {K : Int} (h : Src w g K) {b : Nat} (hp : g < b) (i : Nat) (u : Value) : Src (w.setCell ⟨b, i, none⟩ u) g K := h.keep fun k hk => Below.heap_setCell _ _ _ _ (by show k ≠ b; omega)
theorem Only.setNew {a w : World} {lo hi : Nat} (h : Only lo hi a w) {b : Nat} (hp : a.heap.size ≤ b) (i : Nat) (u : Value) : Only lo hi a (w.setCell ⟨b, i, none⟩ u) :=
  ⟨h.os, h.tape, h.output, by simp; exact h.size, fun k hk h' => by rw [Below.heap_setCell _ _ _ _ (by show k ≠ b; omega)]; exact h.block k hk h'⟩
theorem Src.drew {w : World} {g : Nat} {K : Int} (h : Src w g K) : Src w.drew g K := h
theorem Src.alloc {w : World} {g : Nat} {K : Int} (h : Src w g K) (o : Obj) : Src (w.alloc o) g K := h.below ((Below.refl w.heap.size w).alloc (Nat.le_refl _) o) h.lt

/-- Eight stores, one after another. -/
abbrev set8 (w : World) (g : Nat) (u0 u1 u2 u3 u4 u5 u6 u7 : Value) : World := ((((((((w.setCell ⟨g, 0, none⟩ u0).setCell ⟨g, 1, none⟩ u1).setCell ⟨g, 2, none⟩ u2).setCell ⟨g, 3, none⟩ u3).setCell ⟨g, 4, none⟩ u4).setCell ⟨g, 5, none⟩ u5).setCell ⟨g, 6, none⟩ u6).setCell ⟨g, 7, none⟩ u7)
theorem Bx.set8 {w : World} {g : Nat} {z0 z1 z2 z3 z4 z5 z6 z7 : Value} (h : Bx w g [z0, z1, z2, z3, z4, z5, z6, z7]) (u0 u1 u2 u3 u4 u5 u6 u7 : Value) : Bx (set8 w g u0 u1 u2 u3 u4 u5 u6 u7) g [u0, u1, u2, u3, u4, u5, u6, u7] :=
  (((((((h.set (i := 0) (by simp) u0).set (i := 1) (by simp) u1).set (i := 2) (by simp) u2).set (i := 3) (by simp) u3).set (i := 4) (by simp) u4).set (i := 5) (by simp) u5).set (i := 6) (by simp) u6).set (i := 7) (by simp) u7
theorem Bx.far8 {w : World} {g g' : Nat} {us : List Value} (h : Bx w g us) (hg : g ≠ g') (u0 u1 u2 u3 u4 u5 u6 u7 : Value) : Bx (Go.Proofs.Ythhpjgdeehcgjaa.set8 w g' u0 u1 u2 u3 u4 u5 u6 u7) g us :=
  (((((((h.far hg 0 u0).far hg 1 u1).far hg 2 u2).far hg 3 u3).far hg 4 u4).far hg 5 u5).far hg 6 u6).far hg 7 u7
theorem Src.set8 {w : World} {g : Nat} {K : Int} (h : Src w g K) {b : Nat} (hp : g < b) (u0 u1 u2 u3 u4 u5 u6 u7 : Value) : Src (Go.Proofs.Ythhpjgdeehcgjaa.set8 w b u0 u1 u2 u3 u4 u5 u6 u7) g K :=
  (((((((h.setNew hp 0 u0).setNew hp 1 u1).setNew hp 2 u2).setNew hp 3 u3).setNew hp 4 u4).setNew hp 5 u5).setNew hp 6 u6).setNew hp 7 u7
theorem Only.set8 {a w : World} {lo hi : Nat} (h : Only lo hi a w) {b : Nat} (hp : a.heap.size ≤ b) (u0 u1 u2 u3 u4 u5 u6 u7 : Value) : Only lo hi a (Go.Proofs.Ythhpjgdeehcgjaa.set8 w b u0 u1 u2 u3 u4 u5 u6 u7) :=
  (((((((h.setNew hp 0 u0).setNew hp 1 u1).setNew hp 2 u2).setNew hp 3 u3).setNew hp 4 u4).setNew hp 5 u5).setNew hp 6 u6).setNew hp 7 u7
theorem only_drew {lo hi : Nat} {a w : World} (h : Only lo hi a w) : Only lo hi a w.drew := ⟨h.os, h.tape, h.output, h.size, h.block⟩
theorem drew_cell (w : World) (p : Addr) : w.drew.cell? p = w.cell? p := rfl
theorem wrap_sm {x : Int} (h : -1000 ≤ x) (h' : x ≤ 1000) : IntKind.i64.wrap x = x := by rw [IntKind.wrap_i64]; omega
theorem wrap12 {x : Int} (h : x = 0 ∨ x = 1) : IntKind.i64.wrap (1 + x) = 1 + x := by rcases h with rfl | rfl <;> rfl

abbrev zOp : List Value := [.int .i64 0, .int .i64 0, .int .i64 0, .int .i64 0, .int .i64 0, .int .i64 0, .int .i64 0, .int .i64 0]
/-- Half way: the source, the boxes of the result, of the needle and of the operation. -/
structure DSt (w0 : World) (gs : Nat) (K : Int) (b1 : Nat) (b a : Int) (g6 : Nat) (o : Opr) (wx : World) : Prop where
  src : Src wx gs K
  only : Only gs (gs + 1) w0 wx
  res : Bx wx w0.heap.size zOp
  nd : Bx wx b1 [.int .i64 b, .int .i64 a]
  op : Bx wx g6 o.cells
  lt1 : w0.heap.size < b1
  ne : b1 ≠ g6
  lt6 : w0.heap.size < g6
theorem DSt.alloc {w0 wx : World} {gs b1 g6 : Nat} {K b a : Int} {o : Opr} (h : DSt w0 gs K b1 b a g6 o wx) (ob : Obj) : DSt w0 gs K b1 b a g6 o (wx.alloc ob) := ⟨h.src.alloc _, h.only.alloc _, h.res.alloc _, h.nd.alloc _, h.op.alloc _, h.lt1, h.ne, h.lt6⟩
theorem DSt.drew {w0 wx : World} {gs b1 g6 : Nat} {K b a : Int} {o : Opr} (h : DSt w0 gs K b1 b a g6 o wx) : DSt w0 gs K b1 b a g6 o wx.drew := ⟨h.src, only_drew h.only, h.res, h.nd, h.op, h.lt1, h.ne, h.lt6⟩
theorem DSt.below {w0 wx wy : World} {gs b1 g6 : Nat} {K b a : Int} {o : Opr} (h : DSt w0 gs K b1 b a g6 o wx) (hb : Below wx.heap.size wx wy) : DSt w0 gs K b1 b a g6 o wy :=
  ⟨h.src.below hb h.src.lt, h.only.trans (Only.of_below hb), h.res.below hb h.res.2.2, h.nd.below hb h.nd.2.2, h.op.below hb h.op.2.2, h.lt1, h.ne, h.lt6⟩
theorem DSt.setD {w0 wx : World} {gs b1 g6 : Nat} {K b a : Int} {o : Opr} (h : DSt w0 gs K b1 b a g6 o wx) (hg : gs < w0.heap.size) (d : Int) : DSt w0 gs K b1 b a g6 { o with d := d } (wx.setCell ⟨g6, 1, none⟩ (.int .i64 d)) :=
  ⟨h.src.setNew (by have := h.lt6; omega) _ _, h.only.setNew (by have := h.lt6; omega) _ _, h.res.far (by have := h.lt6; omega) _ _, h.nd.far h.ne _ _, h.op.set (by simp) _, h.lt1, h.ne, h.lt6⟩
theorem DSt.turn {w0 wx wy : World} {gs b1 g6 : Nat} {K K' b a : Int} {o : Opr} (h : DSt w0 gs K b1 b a g6 o wx) (hg : gs < w0.heap.size) (hs : Src wy gs K') (ho : Only gs (gs + 1) wx wy) : DSt w0 gs K' b1 b a g6 o wy :=
  ⟨hs, h.only.trans ho, h.res.only ho (by omega), h.nd.only ho (by have := h.lt1; omega), h.op.only ho (by have := h.lt6; omega), h.lt1, h.ne, h.lt6⟩
theorem DSt.tset {w0 wx : World} {gs b1 g6 g9 : Nat} {K b a : Int} {o : Opr} (h : DSt w0 gs K b1 b a g6 o wx) (hg : gs < w0.heap.size) (h0 : w0.heap.size < g9) (h1 : b1 ≠ g9) (h6 : g6 ≠ g9) (i : Nat) (u : Value) : DSt w0 gs K b1 b a g6 o (wx.setCell ⟨g9, i, none⟩ u) :=
  ⟨h.src.setNew (by omega) _ _, h.only.setNew (by omega) _ _, h.res.far (by omega) _ _, h.nd.far h1 _ _, h.op.far h6 _ _, h.lt1, h.ne, h.lt6⟩
theorem DSt.setK {w0 wx : World} {gs b1 g6 : Nat} {K b a : Int} {o : Opr} (h : DSt w0 gs K b1 b a g6 o wx) (hg : gs < w0.heap.size) (d : Int) : DSt w0 gs K b1 b a g6 { o with k := d } (wx.setCell ⟨g6, 0, none⟩ (.int .i64 d)) :=
  ⟨h.src.setNew (by have := h.lt6; omega) _ _, h.only.setNew (by have := h.lt6; omega) _ _, h.res.far (by have := h.lt6; omega) _ _, h.nd.far h.ne _ _, h.op.set (by simp) _, h.lt1, h.ne, h.lt6⟩
theorem DSt.setTo {w0 wx : World} {gs b1 g6 : Nat} {K b a : Int} {o : Opr} (h : DSt w0 gs K b1 b a g6 o wx) (hg : gs < w0.heap.size) (d e : Int) : DSt w0 gs K b1 b a g6 { o with tb := d, ta := e } ((wx.setCell ⟨g6, 4, none⟩ (.int .i64 d)).setCell ⟨g6, 5, none⟩ (.int .i64 e)) :=
  ⟨(h.src.setNew (by have := h.lt6; omega) _ _).setNew (by have := h.lt6; omega) _ _, (h.only.setNew (by have := h.lt6; omega) _ _).setNew (by have := h.lt6; omega) _ _, (h.res.far (by have := h.lt6; omega) _ _).far (by have := h.lt6; omega) _ _, (h.nd.far h.ne _ _).far h.ne _ _, (h.op.set (i := 4) (by simp) _).set (i := 5) (by simp) _, h.lt1, h.ne, h.lt6⟩
theorem DSt.op8 {w0 wx : World} {gs b1 g6 : Nat} {K b a : Int} {o : Opr} (h : DSt w0 gs K b1 b a g6 o wx) (hg : gs < w0.heap.size) (k d fb fa tb ta c r : Int) : DSt w0 gs K b1 b a g6 ⟨k, d, fb, fa, tb, ta, c, r⟩ (set8 wx g6 (.int .i64 k) (.int .i64 d) (.int .i64 fb) (.int .i64 fa) (.int .i64 tb) (.int .i64 ta) (.int .i64 c) (.int .i64 r)) :=
  ⟨h.src.set8 (by have := h.lt6; omega) _ _ _ _ _ _ _ _, h.only.set8 (by have := h.lt6; omega) _ _ _ _ _ _ _ _, h.res.far8 (by have := h.lt6; omega) _ _ _ _ _ _ _ _, h.nd.far8 h.ne _ _ _ _ _ _ _ _, h.op.set8 _ _ _ _ _ _ _ _, h.lt1, h.ne, h.lt6⟩
/-- An operation that was drawn. -/
def DrawnOp (w : World) (g : Nat) (K wd : Int) (e : Ending) (w' : World) : Prop := ∃ x : Opr, e = .returned x.v ∧ okOpW wd x = true ∧ Src w' g K ∧ Only g (g + 1) w w'
theorem MSt.only {w w' : World} {B g gs : Nat} {m : Mc} {S : Nat → Spot} (h : MSt w B g m S) (ho : Only gs (gs + 1) w w') (hg : gs < B) : MSt w' B g m S :=
  h.keep fun j q hq => ho.block q (h.sp.lt hq).2 (by have := (h.sp.lt hq).1; omega)

end Go.Proofs.Ythhpjgdeehcgjaa

/-
  More that is written into a machine of a call's own: its width, the parents of a loop; and its value.
-/
namespace Go.Proofs.Ythhpjgdeehcgjaa
set_option linter.unusedVariables false
set_option linter.unusedSimpArgs false
open Go.RowKit

section
variable {w w' : World} {B g : Nat} {m : Mc} {S : Nat → Spot}
/-- The width is set. -/
theorem MSt.setWd {r : Int} (h : MSt w B g m S) : MSt (w.setCell ⟨g, 0, none⟩ (.int .i64 r)) B g { m with wd := r } (putS S 0 { S 0 with xs := (S 0).xs.set 0 (.int .i64 r) }) := by
  have hsp := h.sp.setCell (p := 0) (g := g) (i := 0) h.gbox (.int .i64 r) (by rw [h.box]; simp)
  have ev : ∀ j, j ≠ 0 → (putS S 0 { S 0 with xs := (S 0).xs.set 0 (.int .i64 r) }) j = S j := fun j h1 => putS_ne h1
  refine ⟨hsp, ?_, ?_, ?_, ?_, ?_, ?_, fun j l hl => ?_, fun j l hl => ?_, fun j x hx => ?_⟩
  · rw [putS_same, ev 1 (by omega), ev 2 (by omega), ev 3 (by omega), ev 4 (by omega), ev 5 (by omega), h.box]
    rfl
  · rw [ev 1 (by omega)]
    obtain ⟨xs, e, hx⟩ := h.fr
    exact ⟨xs, e, fun j hj => by rw [ev _ (by unfold iF; omega)]; exact hx j hj⟩
  · rw [ev 2 (by omega)]
    obtain ⟨xs, e, hx⟩ := h.bk
    exact ⟨xs, e, fun j hj => by rw [ev _ (by unfold iB; omega)]; exact hx j hj⟩
  · rw [ev 3 (by omega)]; exact h.cs
  · rw [ev 4 (by omega)]
    obtain ⟨xs, e, hx⟩ := h.ls
    exact ⟨xs, e, fun j x hj => by rw [ev _ (by unfold iP; omega)]; exact hx j x hj⟩
  · rw [ev 5 (by omega)]; exact h.dr
  · rw [ev _ (by unfold iF; omega)]; exact h.fl j l hl
  · rw [ev _ (by unfold iB; omega)]; exact h.bl j l hl
  · rw [ev _ (by unfold iP; omega)]; exact h.pl j x hx
/-- A loop is given other parents. -/
theorem MSt.setP {k b : Nat} {x : Inf} {l' : List Int} {v' : Value} (h : MSt w B g m S) (hx : m.ls[k]? = some x) (hb : (S 4).v.ownBlock = some b) (hsp : SpotsT w' B (putS S (iP k) (spI v' l'))) :
    MSt (w'.setCell ⟨b, k * 6 + 5, none⟩ v') B g { m with ls := m.ls.set k { x with ps := l' } } (putS (putS S (iP k) (spI v' l')) 4 { S 4 with xs := (S 4).xs.set (k * 6 + 5) v' }) := by
  have hk : k < m.ls.length := (List.getElem?_eq_some_iff.1 hx).1
  have hne : iP k ≠ 4 := by unfold iP; omega
  have e1 : putS S (iP k) (spI v' l') 4 = S 4 := putS_ne (fun e => hne e.symm)
  have hsz : k * 6 + 5 < (S 4).n * (S 4).sz := by obtain ⟨xs, e, _⟩ := h.ls; rw [e]; show k * 6 + 5 < m.ls.length * 6; omega
  have hsp2 := hsp.setCell (p := 4) (g := b) (i := k * 6 + 5) (by rw [e1]; exact hb) v' (by rw [e1]; exact hsz)
  rw [e1] at hsp2
  have ev : ∀ j, j ≠ 4 → j ≠ iP k → (putS (putS S (iP k) (spI v' l')) 4 { S 4 with xs := (S 4).xs.set (k * 6 + 5) v' }) j = S j := fun j h1 h2 => by rw [putS_ne h1, putS_ne h2]
  have ek : (putS (putS S (iP k) (spI v' l')) 4 { S 4 with xs := (S 4).xs.set (k * 6 + 5) v' }) (iP k) = spI v' l' := by rw [putS_ne hne, putS_same]
  have e4' : (putS (putS S (iP k) (spI v' l')) 4 { S 4 with xs := (S 4).xs.set (k * 6 + 5) v' }) 4 = { S 4 with xs := (S 4).xs.set (k * 6 + 5) v' } := putS_same _ _ _
  refine ⟨hsp2, ?_, ?_, ?_, ?_, ?_, ?_, fun j l hl => ?_, fun j l hl => ?_, fun j y hy => ?_⟩
  · rw [ev 0 (by omega) (by unfold iP; omega), e4', ev 1 (by omega) (by unfold iP; omega), ev 2 (by omega) (by unfold iP; omega), ev 3 (by omega) (by unfold iP; omega), ev 5 (by omega) (by unfold iP; omega)]
    exact h.box
  · obtain ⟨xs, e, hx⟩ := h.fr
    rw [ev 1 (by omega) (by unfold iP; omega)]
    exact ⟨xs, e, fun j hj => by rw [ev _ (by unfold iF; omega) (by unfold iF iP; omega)]; exact hx j hj⟩
  · obtain ⟨xs, e, hx⟩ := h.bk
    rw [ev 2 (by omega) (by unfold iP; omega)]
    exact ⟨xs, e, fun j hj => by rw [ev _ (by unfold iB; omega) (by unfold iB iP; omega)]; exact hx j hj⟩
  · rw [ev 3 (by omega) (by unfold iP; omega)]; exact h.cs
  · obtain ⟨xs, e, hxx⟩ := h.ls
    have hxs : (S 4).xs = xs := by rw [e]
    have hxl : (S 4).xs.length = m.ls.length * 6 := by have := (h.owned e).1; rw [hxs]; exact this
    refine ⟨(S 4).xs.set (k * 6 + 5) v', ?_, fun j y hy i u hu => ?_⟩
    · rw [e4']
      show (⟨(S 4).E, (S 4).sz, (S 4).v, (S 4).n, _⟩ : Spot) = ⟨_, _, (S 4).v, (m.ls.set k _).length, _⟩
      rw [List.length_set]
      have h1 : (S 4).E = 97 := by rw [e]
      have h2 : (S 4).sz = 6 := by rw [e]
      have h3 : (S 4).n = m.ls.length := by rw [e]
      rw [h1, h2, h3]
    · have hi : i < 6 := (List.getElem?_eq_some_iff.1 hu).1
      by_cases hjk : j = k
      · subst hjk
        have hy' : (m.ls.set j { x with ps := l' })[j]? = some y := hy
        rw [List.getElem?_set_self hk] at hy'
        injection hy' with hy'
        subst hy'
        rw [ek] at hu
        by_cases h5 : i = 5
        · subst h5
          rw [List.getElem?_set_self (by omega)]
          exact hu
        · rw [List.getElem?_set_ne (by omega), hxs]
          refine hxx j x hx i u ?_
          rcases i with _ | _ | _ | _ | _ | _ | i
          all_goals first | exact hu | omega
      · have hy' : (m.ls.set k { x with ps := l' })[j]? = some y := hy
        rw [List.getElem?_set_ne (fun e => hjk e.symm)] at hy'
        rw [ev _ (by unfold iP; omega) (by unfold iP; omega)] at hu
        rw [List.getElem?_set_ne (by omega), hxs]
        exact hxx j y hy' i u hu
  · rw [ev 5 (by omega) (by unfold iP; omega)]; exact h.dr
  · rw [ev _ (by unfold iF; omega) (by unfold iF iP; omega)]; exact h.fl j l hl
  · rw [ev _ (by unfold iB; omega) (by unfold iB iP; omega)]; exact h.bl j l hl
  · by_cases hjk : j = k
    · subst hjk
      have hy' : (m.ls.set j { x with ps := l' })[j]? = some y := hy
      rw [List.getElem?_set_self hk] at hy'
      injection hy' with hy'
      subst hy'
      rw [ek]
    · have hy' : (m.ls.set k { x with ps := l' })[j]? = some y := hy
      rw [List.getElem?_set_ne (fun e => hjk e.symm)] at hy'
      rw [ev _ (by unfold iP; omega) (by unfold iP; omega)]
      exact h.pl j y hy'
/-- Its value. -/
theorem MSt.val (h : MSt w B g m S) : RdM w w.heap.size (.agg (mcV m.wd m.rk (S 1).v (S 2).v (S 3).v (S 4).v (S 5).v)) m := by
  refine ⟨_, _, _, _, _, rfl, ?_, ?_, ?_, ?_, (spI_rd (h.sp.own 5) h.dr).1, (spI_rd (h.sp.own 5) h.dr).2⟩
  · obtain ⟨xs, e, hx⟩ := h.fr
    refine RdN.of_row (h.owned e) (fun k x hk => ⟨[(S (iF k)).v], rfl, fun j u hu => ?_, _, rfl, spI_rd (h.sp.own _) (h.fl k x hk)⟩)
    obtain rfl : j = 0 := by have := (List.getElem?_eq_some_iff.1 hu).1; simp at this; omega
    rw [Nat.mul_one, Nat.add_zero, hx k (List.getElem?_eq_some_iff.1 hk).1]
    exact hu
  · obtain ⟨xs, e, hx⟩ := h.bk
    refine RdN.of_row (h.owned e) (fun k x hk => ⟨[(S (iB k)).v], rfl, fun j u hu => ?_, _, rfl, spI_rd (h.sp.own _) (h.bl k x hk)⟩)
    obtain rfl : j = 0 := by have := (List.getElem?_eq_some_iff.1 hu).1; simp at this; omega
    rw [Nat.mul_one, Nat.add_zero, hx k (List.getElem?_eq_some_iff.1 hk).1]
    exact hu
  · exact RdS.of_own Car.len (OwC.of_own (h.owned h.cs))
  · obtain ⟨xs, e, hx⟩ := h.ls
    exact RdN.of_row (h.owned e) (fun k x hk => ⟨_, rfl, hx k x hk, _, rfl, spI_rd (h.sp.own _) (h.pl k x hk)⟩)
end
/-- A valid machine is small. -/
structure SmM (m : Mc) : Prop where
  fr : m.fr.length ≤ 1000
  bk : m.bk.length ≤ 1000
  cs : m.cs.length ≤ 1000
  ls : m.ls.length ≤ 1000
  dr : m.dr.length ≤ 1000
  frs : ∀ x ∈ m.fr, x.length ≤ 1000
  bks : ∀ x ∈ m.bk, x.length ≤ 1000
  lss : ∀ x ∈ m.ls, x.ps.length ≤ 1000
theorem SmM.fit {m : Mc} (h : SmM m) : FitM m :=
  ⟨by have := h.fr; omega, by have := h.bk; omega, by have := h.cs; omega, by have := h.ls; omega, by have := h.dr; omega, fun x hx => by have := h.frs x hx; omega, fun x hx => by have := h.bks x hx; omega, fun x hx => by have := h.lss x hx; omega⟩

end Go.Proofs.Ythhpjgdeehcgjaa

/-
  A machine in another box: a copy of its header into a new block, or over the header of another machine.
-/
namespace Go.Proofs.Ythhpjgdeehcgjaa
set_option linter.unusedVariables false
set_option linter.unusedSimpArgs false
open Go.RowKit

section
variable {w w' : World} {B B' g : Nat} {m : Mc} {S : Nat → Spot}
/-- The same rows under another header, which stands in a box of its own. -/
theorem MSt.boxed (h : MSt w B g m S) {b : Nat} (hs : SpotsT w' B' (putS S 0 ⟨39, 7, .slice (some ⟨b, 0, none⟩) 1 1, 1, [.int .i64 m.wd, .int .i64 m.rk, (S 1).v, (S 2).v, (S 3).v, (S 4).v, (S 5).v]⟩)) :
    MSt w' B' b m (putS S 0 ⟨39, 7, .slice (some ⟨b, 0, none⟩) 1 1, 1, [.int .i64 m.wd, .int .i64 m.rk, (S 1).v, (S 2).v, (S 3).v, (S 4).v, (S 5).v]⟩) := by
  have ev : ∀ j, j ≠ 0 → (putS S 0 ⟨39, 7, .slice (some ⟨b, 0, none⟩) 1 1, 1, [.int .i64 m.wd, .int .i64 m.rk, (S 1).v, (S 2).v, (S 3).v, (S 4).v, (S 5).v]⟩) j = S j := fun j h1 => putS_ne h1
  refine ⟨hs, ?_, ?_, ?_, ?_, ?_, ?_, fun j l hl => ?_, fun j l hl => ?_, fun j x hx => ?_⟩
  · rw [putS_same, ev 1 (by omega), ev 2 (by omega), ev 3 (by omega), ev 4 (by omega), ev 5 (by omega)]
  · rw [ev 1 (by omega)]
    obtain ⟨xs, e, hx⟩ := h.fr
    exact ⟨xs, e, fun j hj => by rw [ev _ (by unfold iF; omega)]; exact hx j hj⟩
  · rw [ev 2 (by omega)]
    obtain ⟨xs, e, hx⟩ := h.bk
    exact ⟨xs, e, fun j hj => by rw [ev _ (by unfold iB; omega)]; exact hx j hj⟩
  · rw [ev 3 (by omega)]; exact h.cs
  · rw [ev 4 (by omega)]
    obtain ⟨xs, e, hx⟩ := h.ls
    exact ⟨xs, e, fun k x hk j u hu => hx k x hk j u (by rw [ev _ (by unfold iP; omega)] at hu; exact hu)⟩
  · rw [ev 5 (by omega)]; exact h.dr
  · rw [ev _ (by unfold iF; omega)]; exact h.fl j l hl
  · rw [ev _ (by unfold iB; omega)]; exact h.bl j l hl
  · rw [ev _ (by unfold iP; omega)]; exact h.pl j x hx
/-- A copy of the header into a new block. -/
theorem MSt.rebox (h : MSt w B g m S) (hB : B ≤ w.heap.size) :
    ∃ S', MSt (w.alloc (.cells (mcV m.wd m.rk (S 1).v (S 2).v (S 3).v (S 4).v (S 5).v) 39)) B w.heap.size m S' ∧ (∀ j, j ≠ 0 → S' j = S j) ∧ (S' 0).v.ownBlock = some w.heap.size := by
  refine ⟨_, h.boxed ((h.sp.alloc _).put 0 _ ?_ (fun q hq => .inr fun j hj e => ?_)), fun j hj => putS_ne hj, by rw [putS_same]; rfl⟩
  · exact World.ownsRow_lit (base := B) (e := 39) (size := 7) w (mcV m.wd m.rk (S 1).v (S 2).v (S 3).v (S 4).v (S 5).v) 1 hB (by unfold maxLen; omega) rfl
  · have hq' : w.heap.size = q := by injection hq
    have := (h.sp.lt e).2
    omega
/-- The header over that of another machine, whose box lies below. -/
theorem MSt.over {b : Nat} {z0 z1 z2 z3 z4 z5 z6 : Value} (h : MSt w B' g m S) (hb : w.ownsRow B 39 7 (.slice (some ⟨b, 0, none⟩) 1 1) 1 [z0, z1, z2, z3, z4, z5, z6]) (hB : B ≤ B') (hbB : b < B') :
    ∃ S', MSt (((((((w.setCell ⟨b, 0, none⟩ (.int .i64 m.wd)).setCell ⟨b, 1, none⟩ (.int .i64 m.rk)).setCell ⟨b, 2, none⟩ (S 1).v).setCell ⟨b, 3, none⟩ (S 2).v).setCell ⟨b, 4, none⟩ (S 3).v).setCell ⟨b, 5, none⟩ (S 4).v).setCell ⟨b, 6, none⟩ (S 5).v) B b m S' ∧ (∀ j, j ≠ 0 → S' j = S j) ∧ (S' 0).v.ownBlock = some b := by
  have hk := h.keep (w' := ((((((w.setCell ⟨b, 0, none⟩ (.int .i64 m.wd)).setCell ⟨b, 1, none⟩ (.int .i64 m.rk)).setCell ⟨b, 2, none⟩ (S 1).v).setCell ⟨b, 3, none⟩ (S 2).v).setCell ⟨b, 4, none⟩ (S 3).v).setCell ⟨b, 5, none⟩ (S 4).v).setCell ⟨b, 6, none⟩ (S 5).v) (fun j q hq => set7_heap _ _ _ _ _ _ _ _ _ _ (by have := (h.sp.lt hq).1; omega))
  refine ⟨_, hk.boxed ((hk.sp.base hB).put 0 _ (own_set7 hb _ _ _ _ _ _ _) (fun q hq => .inr fun j hj e => ?_)), fun j hj => putS_ne hj, by rw [putS_same]; rfl⟩
  have hq' : b = q := by injection hq
  have := (h.sp.lt e).1
  omega
end

end Go.Proofs.Ythhpjgdeehcgjaa
