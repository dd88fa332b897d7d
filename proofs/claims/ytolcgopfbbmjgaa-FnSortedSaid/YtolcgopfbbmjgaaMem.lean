/-
  Words for memory: a slice that reads as a list, a new slice that the call owns.
-/
import Derived.Test.YtolcgopfbbmjgaaBase
namespace Go.Proofs.Ytolcgopfbbmjgaa
set_option linter.unusedVariables false
set_option linter.unusedSimpArgs false
open Go.RowKit

/-- What a function returns that makes memory and turns none: the value is known. -/
def Gives (w : World) (v : Value) (e : Ending) (w' : World) : Prop := e = .returned v ∧ Below w.heap.size w w'

/-- A slice value that reads as the integers l, below block B. -/
def RdI (w : World) (B : Nat) (v : Value) (l : List Int) : Prop :=
  ∃ A n c, v = .slice A n c ∧ n ≤ 9223372036854775807 ∧ Hid (l.length = n) ∧
    ∀ k, k < n → ∃ b off x, A = some ⟨b, off, none⟩ ∧ b < B ∧ l[k]? = some x ∧ w.cell? ⟨b, off + k, none⟩ = some (.int .i64 x)

/-- From block b, place o on, these cells lie. -/
def CellsAt (w : World) (b o : Nat) (us : List Value) : Prop := ∀ j u, us[j]? = some u → w.cell? ⟨b, o + j, none⟩ = some u

/-- A slice value that reads as the list l, each element as sz cells 'cs x', below block B. -/
def RdS {α : Type} (cs : α → List Value) (sz : Nat) (w : World) (B : Nat) (v : Value) (l : List α) : Prop :=
  ∃ A n c, v = .slice A n c ∧ n ≤ 9223372036854775807 ∧ Hid (l.length = n) ∧
    ∀ k, k < n → ∃ b off x, A = some ⟨b, off, none⟩ ∧ b < B ∧ l[k]? = some x ∧ CellsAt w b (off + k * sz) (cs x)

theorem CellsAt.keep {w w' : World} {b o : Nat} {us : List Value} (h : CellsAt w b o us) (hk : ∀ o, w'.cell? ⟨b, o, none⟩ = w.cell? ⟨b, o, none⟩) : CellsAt w' b o us :=
  fun j u hu => (hk _).trans (h j u hu)
theorem CellsAt.below {w w' : World} {B b o : Nat} {us : List Value} (h : CellsAt w b o us) (hb : Below B w w') (hB : b < B) : CellsAt w' b o us :=
  h.keep fun o => hb.cell (p := ⟨b, o, none⟩) hB
theorem CellsAt.grow {w : World} {b o : Nat} {us : List Value} (h : CellsAt w b o us) (x : World) : CellsAt (wgrow w x) b o us :=
  fun j u hu => wgrow_cell (h j u hu)
theorem CellsAt.two {w : World} {b o : Nat} {u0 u1 : Value} (h : CellsAt w b o [u0, u1]) : w.cell? ⟨b, o, none⟩ = some u0 ∧ w.cell? ⟨b, o + 1, none⟩ = some u1 := ⟨h 0 _ rfl, h 1 _ rfl⟩
theorem CellsAt.three {w : World} {b o : Nat} {u0 u1 u2 : Value} (h : CellsAt w b o [u0, u1, u2]) : w.cell? ⟨b, o, none⟩ = some u0 ∧ w.cell? ⟨b, o + 1, none⟩ = some u1 ∧ w.cell? ⟨b, o + 2, none⟩ = some u2 := ⟨h 0 _ rfl, h 1 _ rfl, h 2 _ rfl⟩
theorem CellsAt.six {w : World} {b o : Nat} {u0 u1 u2 u3 u4 u5 : Value} (h : CellsAt w b o [u0, u1, u2, u3, u4, u5]) : w.cell? ⟨b, o, none⟩ = some u0 ∧ w.cell? ⟨b, o + 1, none⟩ = some u1 ∧ w.cell? ⟨b, o + 2, none⟩ = some u2 ∧
    w.cell? ⟨b, o + 3, none⟩ = some u3 ∧ w.cell? ⟨b, o + 4, none⟩ = some u4 ∧ w.cell? ⟨b, o + 5, none⟩ = some u5 := ⟨h 0 _ rfl, h 1 _ rfl, h 2 _ rfl, h 3 _ rfl, h 4 _ rfl, h 5 _ rfl⟩
theorem CellsAt.eight {w : World} {b o : Nat} {u0 u1 u2 u3 u4 u5 u6 u7 : Value} (h : CellsAt w b o [u0, u1, u2, u3, u4, u5, u6, u7]) : w.cell? ⟨b, o, none⟩ = some u0 ∧ w.cell? ⟨b, o + 1, none⟩ = some u1 ∧ w.cell? ⟨b, o + 2, none⟩ = some u2 ∧
    w.cell? ⟨b, o + 3, none⟩ = some u3 ∧ w.cell? ⟨b, o + 4, none⟩ = some u4 ∧ w.cell? ⟨b, o + 5, none⟩ = some u5 ∧ w.cell? ⟨b, o + 6, none⟩ = some u6 ∧ w.cell? ⟨b, o + 7, none⟩ = some u7 := ⟨h 0 _ rfl, h 1 _ rfl, h 2 _ rfl, h 3 _ rfl, h 4 _ rfl, h 5 _ rfl, h 6 _ rfl, h 7 _ rfl⟩
/-- The same in every world that extends w. -/
theorem CellsAt.grow2 {w : World} {b o : Nat} {u0 u1 : Value} (h : CellsAt w b o [u0, u1]) : (∀ X, (wgrow w X).cell? ⟨b, o, none⟩ = some u0) ∧ (∀ X, (wgrow w X).cell? ⟨b, o + 1, none⟩ = some u1) := ⟨fun X => h.grow X 0 _ rfl, fun X => h.grow X 1 _ rfl⟩
theorem CellsAt.grow3 {w : World} {b o : Nat} {u0 u1 u2 : Value} (h : CellsAt w b o [u0, u1, u2]) : (∀ X, (wgrow w X).cell? ⟨b, o, none⟩ = some u0) ∧ (∀ X, (wgrow w X).cell? ⟨b, o + 1, none⟩ = some u1) ∧ (∀ X, (wgrow w X).cell? ⟨b, o + 2, none⟩ = some u2) := ⟨fun X => h.grow X 0 _ rfl, fun X => h.grow X 1 _ rfl, fun X => h.grow X 2 _ rfl⟩
theorem CellsAt.grow6 {w : World} {b o : Nat} {u0 u1 u2 u3 u4 u5 : Value} (h : CellsAt w b o [u0, u1, u2, u3, u4, u5]) : (∀ X, (wgrow w X).cell? ⟨b, o, none⟩ = some u0) ∧ (∀ X, (wgrow w X).cell? ⟨b, o + 1, none⟩ = some u1) ∧ (∀ X, (wgrow w X).cell? ⟨b, o + 2, none⟩ = some u2) ∧
    (∀ X, (wgrow w X).cell? ⟨b, o + 3, none⟩ = some u3) ∧ (∀ X, (wgrow w X).cell? ⟨b, o + 4, none⟩ = some u4) ∧ (∀ X, (wgrow w X).cell? ⟨b, o + 5, none⟩ = some u5) := ⟨fun X => h.grow X 0 _ rfl, fun X => h.grow X 1 _ rfl, fun X => h.grow X 2 _ rfl, fun X => h.grow X 3 _ rfl, fun X => h.grow X 4 _ rfl, fun X => h.grow X 5 _ rfl⟩
theorem CellsAt.grow8 {w : World} {b o : Nat} {u0 u1 u2 u3 u4 u5 u6 u7 : Value} (h : CellsAt w b o [u0, u1, u2, u3, u4, u5, u6, u7]) : (∀ X, (wgrow w X).cell? ⟨b, o, none⟩ = some u0) ∧ (∀ X, (wgrow w X).cell? ⟨b, o + 1, none⟩ = some u1) ∧ (∀ X, (wgrow w X).cell? ⟨b, o + 2, none⟩ = some u2) ∧
    (∀ X, (wgrow w X).cell? ⟨b, o + 3, none⟩ = some u3) ∧ (∀ X, (wgrow w X).cell? ⟨b, o + 4, none⟩ = some u4) ∧ (∀ X, (wgrow w X).cell? ⟨b, o + 5, none⟩ = some u5) ∧ (∀ X, (wgrow w X).cell? ⟨b, o + 6, none⟩ = some u6) ∧ (∀ X, (wgrow w X).cell? ⟨b, o + 7, none⟩ = some u7) := ⟨fun X => h.grow X 0 _ rfl, fun X => h.grow X 1 _ rfl, fun X => h.grow X 2 _ rfl, fun X => h.grow X 3 _ rfl, fun X => h.grow X 4 _ rfl, fun X => h.grow X 5 _ rfl, fun X => h.grow X 6 _ rfl, fun X => h.grow X 7 _ rfl⟩

section
variable {α : Type} {cs : α → List Value} {sz : Nat} {w w' : World} {B B' : Nat} {v : Value} {l : List α}
theorem RdS.below (h : RdS cs sz w B v l) (hb : Below B w w') : RdS cs sz w' B v l := by
  obtain ⟨A, n, c, hv, hm, hl, h⟩ := h
  refine ⟨A, n, c, hv, hm, hl, fun k hk => ?_⟩
  obtain ⟨b, off, x, hA, hB, hx, hc⟩ := h k hk
  exact ⟨b, off, x, hA, hB, hx, hc.below hb hB⟩
theorem RdS.more (h : RdS cs sz w B v l) (hB : B ≤ B') : RdS cs sz w B' v l := by
  obtain ⟨A, n, c, hv, hm, hl, h⟩ := h
  refine ⟨A, n, c, hv, hm, hl, fun k hk => ?_⟩
  obtain ⟨b, off, x, hA, hb, hx, hc⟩ := h k hk
  exact ⟨b, off, x, hA, by omega, hx, hc⟩
theorem RdS.map {β : Type} {ds : β → List Value} (f : α → β) (hf : ∀ x ∈ l, ds (f x) = cs x) (h : RdS cs sz w B v l) : RdS ds sz w B v (l.map f) := by
  obtain ⟨A, n, c, hv, hm, hl, h⟩ := h
  refine ⟨A, n, c, hv, hm, by unfold Hid; rw [List.length_map]; exact hl.out, fun k hk => ?_⟩
  obtain ⟨b, off, x, hA, hb, hx, hc⟩ := h k hk
  exact ⟨b, off, f x, hA, hb, by simp [hx], by rw [hf x (List.mem_of_getElem? hx)]; exact hc⟩
end

/-- The cells of a list of elements, one after the other. -/
def vS {α : Type} (cs : α → List Value) (l : List α) : List Value := l.flatMap cs

theorem vS_get {α : Type} {cs : α → List Value} {sz : Nat} (hs : ∀ x, (cs x).length = sz) : ∀ (l : List α) (k : Nat) (x : α), l[k]? = some x → ∀ j, j < sz → (vS cs l)[k * sz + j]? = (cs x)[j]?
  | [], k, x, h, j, _ => by simp at h
  | y :: ys, 0, x, h, j, hj => by
    simp at h
    subst h
    simp only [vS, List.flatMap_cons, Nat.zero_mul, Nat.zero_add]
    rw [List.getElem?_append_left (by rw [hs]; exact hj)]
  | y :: ys, k + 1, x, h, j, hj => by
    have ih := vS_get hs ys k x (by simpa using h) j hj
    simp only [vS, List.flatMap_cons] at ih ⊢
    rw [List.getElem?_append_right (by rw [hs, Nat.succ_mul]; omega), hs, ← ih]
    congr 1
    rw [Nat.succ_mul]
    omega

theorem vS_len {α : Type} {cs : α → List Value} {sz : Nat} (hs : ∀ x, (cs x).length = sz) : ∀ (l : List α), (vS cs l).length = l.length * sz
  | [] => by simp [vS]
  | y :: ys => by
    have ih := vS_len hs ys
    simp only [vS, List.flatMap_cons, List.length_append, List.length_cons] at ih ⊢
    rw [ih, hs, Nat.succ_mul]
    omega

theorem vS_ext {α : Type} {cs : α → List Value} {sz : Nat} (hs : ∀ x, (cs x).length = sz) (hz : 0 < sz) {l : List α} {xs : List Value} (hl : xs.length = l.length * sz)
    (h : ∀ k x, l[k]? = some x → ∀ j, j < sz → xs[k * sz + j]? = (cs x)[j]?) : xs = vS cs l := by
  apply List.ext_getElem?
  intro i
  by_cases hi : i < l.length * sz
  · have hk : i / sz < l.length := by rw [Nat.div_lt_iff_lt_mul hz]; exact hi
    have hm := Nat.mod_lt i hz
    have e : i / sz * sz + i % sz = i := by rw [Nat.mul_comm]; exact Nat.div_add_mod i sz
    have h1 := h (i / sz) _ (List.getElem?_eq_getElem hk) (i % sz) hm
    have h2 := vS_get hs l (i / sz) _ (List.getElem?_eq_getElem hk) (i % sz) hm
    rw [e] at h1 h2
    rw [h1, h2]
  · rw [List.getElem?_eq_none (by omega), List.getElem?_eq_none (by rw [vS_len hs]; omega)]

theorem RdI.below {w w' : World} {B : Nat} {v : Value} {l : List Int} (h : RdI w B v l) (hb : Below B w w') : RdI w' B v l := by
  obtain ⟨A, n, c, hv, hm, hl, h⟩ := h
  refine ⟨A, n, c, hv, hm, hl, fun k hk => ?_⟩
  obtain ⟨b, off, x, hA, hB, hx, hc⟩ := h k hk
  exact ⟨b, off, x, hA, hB, hx, (hb.cell (p := ⟨b, off + k, none⟩) hB).trans hc⟩

theorem drop_of_get {α : Type} {l : List α} {k : Nat} {x : α} (h : l[k]? = some x) : l.drop k = x :: l.drop (k + 1) := by
  obtain ⟨hk, rfl⟩ := List.getElem?_eq_some_iff.1 h
  exact List.drop_eq_getElem_cons hk

/-- A slice of n elements of type E (sz cells each) whose cells are xs; its row lies in the blocks from lo on and below hi, and may be written. An empty slice may lie anywhere. -/
def OwC (w : World) (lo hi : Nat) (E : TypeId) (sz : Nat) (v : Value) (n : Nat) (xs : List Value) : Prop :=
  xs.length = n * sz ∧ ((n = 0 ∧ ∃ A c, v = .slice A 0 c) ∨
    ∃ g cap cur, v = .slice (some ⟨g, 0, none⟩) n cap ∧ lo ≤ g ∧ g < hi ∧ w.heap[g]? = some (.cells cur E (0, 0)) ∧ n ≤ cap ∧ cap ≤ maxLen ∧ cur.size = cap * sz ∧ cur.toList.take (n * sz) = xs)

theorem OwC.of_own {w : World} {base E sz n : Nat} {v : Value} {xs : List Value} (h : w.ownsRow base E sz v n xs) : OwC w base w.heap.size E sz v n xs := by
  refine ⟨h.1, ?_⟩
  rcases h.2 with ⟨rfl, rfl⟩ | ⟨g, cap, cur, rfl, hb, hh, h1, h2, h3, h4⟩
  · exact .inl ⟨rfl, none, 0, rfl⟩
  · exact .inr ⟨g, cap, cur, rfl, hb, (Array.getElem?_eq_some_iff.1 hh).1, hh, h1, h2, h3, h4⟩

theorem OwC.keep {w w' : World} {lo hi E sz n : Nat} {v : Value} {xs : List Value} (h : OwC w lo hi E sz v n xs) (hk : ∀ g, lo ≤ g → g < hi → w'.heap[g]? = w.heap[g]?) : OwC w' lo hi E sz v n xs := by
  refine ⟨h.1, ?_⟩
  rcases h.2 with h2 | ⟨g, cap, cur, rfl, hb, hh, h1, h2⟩
  · exact .inl h2
  · exact .inr ⟨g, cap, cur, rfl, hb, hh, (hk g hb hh).trans h1, h2⟩

theorem OwC.wide {w : World} {lo hi lo' hi' E sz n : Nat} {v : Value} {xs : List Value} (h : OwC w lo hi E sz v n xs) (h1 : lo' ≤ lo) (h2 : hi ≤ hi') : OwC w lo' hi' E sz v n xs := by
  refine ⟨h.1, ?_⟩
  rcases h.2 with h3 | ⟨g, cap, cur, rfl, hb, hh, h4⟩
  · exact .inl h3
  · exact .inr ⟨g, cap, cur, rfl, by omega, by omega, h4⟩

theorem OwC.below {w w' : World} {lo hi E sz n : Nat} {v : Value} {xs : List Value} (h : OwC w lo hi E sz v n xs) (hb : Below hi w w') : OwC w' lo hi E sz v n xs :=
  h.keep fun g _ hg => hb.block g hg

/-- What is in an own row's cells. -/
theorem OwC.cells {w : World} {lo hi E sz n : Nat} {v : Value} {xs : List Value} (h : OwC w lo hi E sz v n xs) : ∃ A c, v = .slice A n c ∧ n ≤ 9223372036854775807 ∧
    ∀ k, k < n → ∃ g, A = some ⟨g, 0, none⟩ ∧ lo ≤ g ∧ g < hi ∧ (∀ j, w.frozen? ⟨g, j, none⟩ = false) ∧ ∀ j x, j < n * sz → xs[j]? = some x → w.cell? ⟨g, j, none⟩ = some x := by
  rcases h.2 with ⟨rfl, A, c, rfl⟩ | ⟨g, cap, cur, rfl, hb, hh, hg, hn, hc, hs, hx⟩
  · exact ⟨A, c, rfl, by omega, fun k hk => absurd hk (by omega)⟩
  · refine ⟨_, cap, rfl, by unfold maxLen at hc; omega, fun k _ => ⟨g, rfl, hb, hh, fun j => frozen_of_row w g j cur E hg, fun j x hj hxj => ?_⟩⟩
    rw [cell_of_row w g j cur E (0, 0) hg, ← Array.getElem?_toList, ← hxj, ← hx, List.getElem?_take]
    rw [if_pos hj]

def vI (l : List Int) : List Value := l.map (Value.int .i64)

theorem RdI.of_own {w : World} {lo hi E : Nat} {v : Value} {l : List Int} (h : OwC w lo hi E 1 v l.length (vI l)) : RdI w hi v l := by
  obtain ⟨A, c, rfl, hm, hc⟩ := h.cells
  refine ⟨A, _, c, rfl, hm, rfl, fun k hk => ?_⟩
  obtain ⟨g, rfl, _, hg, _, hx⟩ := hc k hk
  obtain ⟨x, hlx⟩ : ∃ x, l[k]? = some x := ⟨_, List.getElem?_eq_getElem hk⟩
  exact ⟨g, 0, x, rfl, hg, hlx, by rw [Nat.zero_add]; exact hx k _ (by omega) (by simp [vI, hlx])⟩

theorem RdI.more {w : World} {B B' : Nat} {v : Value} {l : List Int} (h : RdI w B v l) (hB : B ≤ B') : RdI w B' v l := by
  obtain ⟨A, n, c, hv, hm, hl, h⟩ := h
  refine ⟨A, n, c, hv, hm, hl, fun k hk => ?_⟩
  obtain ⟨b, off, x, hA, hb, hx, hc⟩ := h k hk
  exact ⟨b, off, x, hA, by omega, hx, hc⟩

/-- What a function gives that returns a new slice. -/
def GivesOw (w : World) (E sz n : Nat) (xs : List Value) (e : Ending) (w' : World) : Prop := ∃ v, e = .returned v ∧ OwC w' w.heap.size w'.heap.size E sz v n xs ∧ Below w.heap.size w w'

theorem RdS.of_own {α : Type} {cs : α → List Value} {sz : Nat} (hs : ∀ x, (cs x).length = sz) {w : World} {lo hi E : Nat} {v : Value} {l : List α} (h : OwC w lo hi E sz v l.length (vS cs l)) : RdS cs sz w hi v l := by
  obtain ⟨A, c, rfl, hm, hc⟩ := h.cells
  refine ⟨A, _, c, rfl, hm, rfl, fun k hk => ?_⟩
  obtain ⟨g, rfl, _, hg, _, hx⟩ := hc k hk
  obtain ⟨x, hlx⟩ : ∃ x, l[k]? = some x := ⟨_, List.getElem?_eq_getElem hk⟩
  refine ⟨g, 0, x, rfl, hg, hlx, fun j u hu => ?_⟩
  have hj : j < sz := by rw [← hs x]; exact (List.getElem?_eq_some_iff.1 hu).1
  have h1 : (k + 1) * sz ≤ l.length * sz := Nat.mul_le_mul_right sz hk
  rw [Nat.zero_add]
  refine hx _ _ ?_ ?_
  · rw [Nat.succ_mul] at h1; omega
  · rw [vS_get hs l k x hlx j hj]; exact hu

/-- make of n elements of several cells. -/
theorem run_make_rowsN {P : Program} (t e : TypeId) (z : Array Value) (sz bytes : Nat) (ht : P.underlying t = some (.slice e)) (hinfo : (P.info? e).map (fun i => (i.zero, i.size, i.bytes)) = some (some (.agg z), sz, bytes))
    (kl kc : IntKind) (n : Nat) (hbytes : bytes * n ≤ 281474976710656) (h63 : n ≤ 9223372036854775807) (w : World) :
    (Instr.makeSlice t (.int kl (n : Int)) (.int kc (n : Int))).run P w = .ok (.slice (some ⟨w.heap.size, 0, none⟩) n n) (w.alloc (.cells (madeCells z (n * sz)) e)) := by
  obtain ⟨i, hi, hzz⟩ := Option.map_eq_some_iff.1 hinfo
  simp only [Prod.mk.injEq] at hzz
  obtain ⟨hz, hs, hb⟩ := hzz
  subst hs
  have hb' : (i.bytes : Int) * (n : Int) ≤ 281474976710656 := by
    have h : ((i.bytes * n : Nat) : Int) ≤ 281474976710656 := by rw [hb]; omega
    rwa [Int.natCast_mul] at h
  have hr := run_make (P := P) w t e i (.agg z) ht hi hz kl kc n n (by omega) (Int.le_refl _) hb' (by omega)
  simp only [Int.toNat_natCast, Value.cells] at hr
  exact hr

theorem rowIs_madeN (w : World) (z : Array Value) (n : Nat) (t : TypeId) : (w.alloc (.cells (madeCells z n) t)).rowIs w.heap.size t n (fun i => z[i % z.size]!) :=
  ⟨_, heap_alloc_new _ _, size_madeCells _ _, fun i hi => by simp [madeCells, hi]⟩

/-- A row that has been filled is a new slice. -/
theorem OwC.of_row {α : Type} {cs : α → List Value} {sz : Nat} (hs : ∀ x, (cs x).length = sz) (hz : 0 < sz) {w : World} {lo g E n : Nat} {f : Nat → Value} {l : List α} (h : w.rowIs g E (n * sz) f) (hl : l.length = n) (hlo : lo ≤ g) (hn : n ≤ 9223372036854775807)
    (hf : ∀ q x, q < n → l[q]? = some x → ∀ j, j < sz → some (f (q * sz + j)) = (cs x)[j]?) : OwC w lo w.heap.size E sz (.slice (some ⟨g, 0, none⟩) n n) l.length (vS cs l) := by
  refine ⟨vS_len hs l, .inr ?_⟩
  obtain ⟨cur, h1, h2, h3⟩ := h
  refine ⟨g, n, cur, by rw [hl], hlo, (Array.getElem?_eq_some_iff.1 h1).1, h1, by omega, by unfold maxLen; omega, h2, ?_⟩
  rw [List.take_of_length_le (by simp; rw [h2, hl]; exact Nat.le_refl _)]
  refine vS_ext hs hz (by simp; rw [h2, hl]) (fun k x hx j hj => ?_)
  have hk : k < n := by rw [← hl]; exact (List.getElem?_eq_some_iff.1 hx).1
  have h4 : (k + 1) * sz ≤ n * sz := Nat.mul_le_mul_right sz hk
  rw [Array.getElem?_toList, h3 _ (by rw [Nat.succ_mul] at h4; omega)]
  exact hf k x hk hx j hj

theorem rowIs_set6 {w : World} {b t n : Nat} {f : Nat → Value} (h : w.rowIs b t n f) (o : Nat) (u0 u1 u2 u3 u4 u5 : Value) :
    ((((((w.setCell ⟨b, o, none⟩ u0).setCell ⟨b, o + 1, none⟩ u1).setCell ⟨b, o + 2, none⟩ u2).setCell ⟨b, o + 3, none⟩ u3).setCell ⟨b, o + 4, none⟩ u4).setCell ⟨b, o + 5, none⟩ u5).rowIs b t n
      (fun j => if j = o + 5 then u5 else if j = o + 4 then u4 else if j = o + 3 then u3 else if j = o + 2 then u2 else if j = o + 1 then u1 else if j = o then u0 else f j) :=
  (((((h.set _ _).set _ _).set _ _).set _ _).set _ _).set _ _

theorem below_set6 {B : Nat} {a w : World} (h : Below B a w) {b o : Nat} (hb : B ≤ b) (u0 u1 u2 u3 u4 u5 : Value) :
    Below B a ((((((w.setCell ⟨b, o, none⟩ u0).setCell ⟨b, o + 1, none⟩ u1).setCell ⟨b, o + 2, none⟩ u2).setCell ⟨b, o + 3, none⟩ u3).setCell ⟨b, o + 4, none⟩ u4).setCell ⟨b, o + 5, none⟩ u5) :=
  (((((h.setCell hb _).setCell hb _).setCell hb _).setCell hb _).setCell hb _).setCell hb _

/-- What the filled row holds behind one more element of six cells. -/
theorem fill6 {α : Type} {cs : α → List Value} {f : Nat → Value} {l : List α} {k : Nat} {x : α} {u0 u1 u2 u3 u4 u5 : Value} (hx : l[k]? = some x) (hc : cs x = [u0, u1, u2, u3, u4, u5])
    (hf : ∀ q x, q < k → l[q]? = some x → ∀ j, j < 6 → some (f (q * 6 + j)) = (cs x)[j]?) :
    ∀ q x, q < k + 1 → l[q]? = some x → ∀ j, j < 6 → some ((fun j => if j = k * 6 + 5 then u5 else if j = k * 6 + 4 then u4 else if j = k * 6 + 3 then u3 else if j = k * 6 + 2 then u2 else if j = k * 6 + 1 then u1 else if j = k * 6 then u0 else f j) (q * 6 + j)) = (cs x)[j]? := by
  intro q y hq hy j hj
  by_cases hqk : q = k
  · subst hqk
    rw [hx] at hy
    injection hy with hy
    subst hy
    rw [hc]
    obtain rfl | rfl | rfl | rfl | rfl | rfl : j = 0 ∨ j = 1 ∨ j = 2 ∨ j = 3 ∨ j = 4 ∨ j = 5 := by omega
    all_goals simp
  · show some (if q * 6 + j = k * 6 + 5 then u5 else if q * 6 + j = k * 6 + 4 then u4 else if q * 6 + j = k * 6 + 3 then u3 else if q * 6 + j = k * 6 + 2 then u2 else if q * 6 + j = k * 6 + 1 then u1 else if q * 6 + j = k * 6 then u0 else f (q * 6 + j)) = _
    rw [if_neg (by omega), if_neg (by omega), if_neg (by omega), if_neg (by omega), if_neg (by omega), if_neg (by omega)]
    exact hf q y (by omega) hy j hj

theorem new_cells (w : World) (E : TypeId) (us : List Value) : ∀ j u, us[j]? = some u → (w.alloc (.cells us.toArray E)).cell? ((⟨w.heap.size, 0, none⟩ : Addr).add j) = some u := by
  intro j u hu
  have e : (⟨w.heap.size, 0, none⟩ : Addr).add j = ⟨w.heap.size, j, none⟩ := by unfold Addr.add; split <;> simp_all
  rw [e, cell_of_row _ _ _ us.toArray E (0, 0) (heap_alloc_new w _)]
  simpa using hu

/-- Behind an append to an own row. -/
theorem below_append {B : Nat} {a w w' : World} {o : Obj} {E sz n : Nat} {v : Value} {xs : List Value} (h : Below B a w) (hB : B ≤ w.heap.size) (ho : w.ownsRow B E sz v n xs) (hg : (w.alloc o).grownBy w' v.ownBlock) : Below B a w' :=
  (h.alloc hB o).grown hg (by simp; omega) (fun k hk => (ho.lt k hk).1)

end Go.Proofs.Ytolcgopfbbmjgaa
