/-
  Nested data: slices whose elements hold slices; arguments of such types opened.
-/
import Derived.Test.YtolcgopfbbmjgaaOpen
namespace Go.Proofs.Ytolcgopfbbmjgaa
set_option linter.unusedVariables false
set_option linter.unusedSimpArgs false
open Go.ChangeShapes Go.WideShapes Go.ChangeAt Go.RowKit Go.Deep
open Go.ChangeMaps (open_string shut_string)

/-- A slice of n elements of sz cells each; an element's cells us tell its datum by R. -/
def RdN {α : Type} (R : World → Nat → List Value → α → Prop) (sz : Nat) (w : World) (B : Nat) (v : Value) (l : List α) : Prop :=
  ∃ A n c, v = .slice A n c ∧ n ≤ 9223372036854775807 ∧ Hid (l.length = n) ∧ ∀ k, k < n → ∃ b off x us, A = some ⟨b, off, none⟩ ∧ b < B ∧ l[k]? = some x ∧ us.length = sz ∧ CellsAt w b (off + k * sz) us ∧ R w B us x

section
variable {α : Type} {R : World → Nat → List Value → α → Prop} {sz : Nat} {w w' : World} {B B' : Nat} {v : Value} {l : List α}
theorem RdN.below (hR : ∀ us x, R w B us x → R w' B us x) (h : RdN R sz w B v l) (hb : Below B w w') : RdN R sz w' B v l := by
  obtain ⟨A, n, c, rfl, hn, hl, h⟩ := h
  refine ⟨A, n, c, rfl, hn, hl, fun k hk => ?_⟩
  obtain ⟨b, off, x, us, h1, h2, h3, h4, h5, h6⟩ := h k hk
  exact ⟨b, off, x, us, h1, h2, h3, h4, h5.below hb h2, hR us x h6⟩
theorem RdN.more (hR : ∀ us x, R w B us x → R w B' us x) (h : RdN R sz w B v l) (hB : B ≤ B') : RdN R sz w B' v l := by
  obtain ⟨A, n, c, rfl, hn, hl, h⟩ := h
  refine ⟨A, n, c, rfl, hn, hl, fun k hk => ?_⟩
  obtain ⟨b, off, x, us, h1, h2, h3, h4, h5, h6⟩ := h k hk
  exact ⟨b, off, x, us, h1, by omega, h3, h4, h5, hR us x h6⟩
theorem RdN.shape (h : RdN R sz w B v l) : ∃ A c, v = .slice A l.length c := by
  obtain ⟨A, n, c, rfl, _, hl, _⟩ := h
  exact ⟨A, c, by rw [hl.out]⟩
end
theorem RdI.len {w : World} {B : Nat} {v : Value} {l : List Int} (h : RdI w B v l) : ∃ A c, v = .slice A l.length c := by
  obtain ⟨A, n, c, rfl, _, hl, _⟩ := h
  exact ⟨A, c, by rw [hl.out]⟩
theorem RdS.lens {α : Type} {cs : α → List Value} {sz : Nat} {w : World} {B : Nat} {v : Value} {l : List α} (h : RdS cs sz w B v l) : ∃ A c, v = .slice A l.length c := by
  obtain ⟨A, n, c, rfl, _, hl, _⟩ := h
  exact ⟨A, c, by rw [hl.out]⟩

section
variable {H : Type} {enc : TypeId × Value → H} {P : Program} {W : World} {base : Nat}

/-- What a value of one cell of type t is, wherever it is found. -/
def Opens (enc : TypeId × Value → H) (P : Program) (W : World) (t : TypeId) {α : Type} (R : Value → α → Prop) : Prop :=
  ∀ (n : Nat) (v : Value) (y : DataW H × List MemPlace), DataW.trod enc P W 0 (fun _ => true) true n t [v] = some y → ∃ x, R v x

theorem opens_int {t : TypeId} (ht : P.underlying t = some (.int .i64)) : Opens enc P W t (fun v x => v = .int .i64 x ∧ Fit x) := fun _ _ _ h => open_int1 ht h
theorem opens_bool {t : TypeId} (ht : P.underlying t = some .bool) : Opens enc P W t (fun v x => v = .bool x) := fun _ _ _ h => by
  obtain ⟨b, e, _⟩ := DataW.trod_bool ht h
  simp at e
  exact ⟨b, e⟩

theorem opens_ints {t e : TypeId} (ht : P.underlying t = some (.slice e)) (he : P.underlying e = some (.int .i64)) (hc : P.cellsOf e = 1) : Opens enc P W t (fun v l => RdI W W.heap.size v l ∧ ∀ x ∈ l, Fit x) := fun fuel v y hf => by
  rcases open_ints ht he hc hf with ⟨hcs, _⟩ | ⟨a, n, c, zs, hcs, _, hl, hm, hz, _, hcell, hwz⟩
  · simp at hcs
    subst hcs
    exact ⟨[], ⟨none, 0, 0, rfl, by omega, rfl, fun k hk => absurd hk (by omega)⟩, by simp⟩
  · simp at hcs
    subst hcs
    simp only [if_true] at hz
    refine ⟨zs.take n, ⟨some a, n, c, rfl, by unfold maxLen at hm; omega, by unfold Hid; simp; omega, fun k hk => ?_⟩, fun x hx => fit_of_wf (hwz x (List.mem_of_mem_take hx))⟩
    obtain ⟨h1, h2, h3⟩ := addr_of_cell (hcell k (by omega)) ⟨_, hcell 0 (by omega)⟩
    refine ⟨a.block, a.off, zs.getD k 0, by rw [← h1], h2, ?_, h3⟩
    rw [List.getElem?_take, if_pos hk, List.getD_eq_getElem?_getD, List.getElem?_eq_getElem (by omega)]
    rfl

/-- A slice whose elements' cells tell their datum. -/
theorem opens_rdN {α : Type} {R : World → Nat → List Value → α → Prop} {t e : TypeId} {sz : Nat} (ht : P.underlying t = some (.slice e)) (hC : P.cellsOf e = sz) (hp : 0 < sz)
    (hel : ∀ (us : List Value) (n : Nat) (y : DataW H × List MemPlace), us.length = sz → DataW.trod enc P W 0 (fun _ => true) true n e us = some y → ∃ x, R W W.heap.size us x) :
    Opens enc P W t (fun v l => RdN R sz W W.heap.size v l) := fun fuel v y hf => by
  rcases open_slice ht hf with ⟨hcs, _⟩ | ⟨a, n, c, m, q, D, Pl, hcs, _, hl, hm, hmm, _, hi⟩
  · simp at hcs
    subst hcs
    exact ⟨[], none, 0, 0, rfl, by omega, rfl, fun k hk => absurd hk (by omega)⟩
  · simp at hcs
    subst hcs
    simp only [if_true] at hmm
    subst hmm
    rw [hC] at hi
    have hE : ∀ k, k < n → ∃ x, ∃ us, a = ⟨a.block, a.off, none⟩ ∧ a.block < W.heap.size ∧ us.length = sz ∧ CellsAt W a.block (a.off + k * sz) us ∧ R W W.heap.size us x := by
      intro k hk
      obtain ⟨cs0, h0, _⟩ := hi 0 (by omega)
      obtain ⟨_, hl0, hat0⟩ := World.cells?_some h0
      have hz : ∃ u, W.cell? (a.add 0) = some u := by
        have := hat0 0 (by omega)
        rw [Go.Deep.add_add, Nat.zero_mul] at this
        exact ⟨_, this.trans (List.getElem?_eq_getElem (by omega))⟩
      obtain ⟨us, hk1, hk2⟩ := hi k (by omega)
      obtain ⟨_, hlen, hat⟩ := World.cells?_some hk1
      obtain ⟨x, hx⟩ := hel us q _ hlen hk2
      have hcell : ∀ j, j < sz → W.cell? (a.add (k * sz + j)) = us[j]? := fun j hj => by rw [← Go.Deep.add_add]; exact hat j hj
      have h00 := hcell 0 hp
      rw [List.getElem?_eq_getElem (by omega)] at h00
      obtain ⟨ha, hb, _⟩ := addr_of_cell h00 hz
      refine ⟨x, us, ha, hb, hlen, fun j u hu => ?_, hx⟩
      have hj : j < sz := by rw [← hlen]; exact (List.getElem?_eq_some_iff.1 hu).1
      have h1 := hcell j hj
      rw [hu] at h1
      rw [Nat.add_assoc]
      exact (addr_of_cell h1 hz).2.2
    obtain ⟨l, hlen, hall⟩ := build_list (n := n) hE
    refine ⟨l, some a, _, _, rfl, by unfold maxLen at hm; omega, hlen, fun k hk => ?_⟩
    obtain ⟨x, h1, us, ha, hb, hl5, hc5, hR5⟩ := hall k hk
    exact ⟨a.block, a.off, x, us, by rw [← ha], hb, h1, hl5, hc5, hR5⟩

/-- The fields of a struct of one-cell fields. -/
theorem opens_fields {e : TypeId} {fs : Array Field} (he : P.underlying e = some (.struct fs)) (hone : oneCellFields P fs = true) (hC : P.cellsOf e = fs.size) {us : List Value} {n : Nat} {y : DataW H × List MemPlace}
    (h : DataW.trod enc P W 0 (fun _ => true) true n e us = some y) : us.length = fs.size ∧ ∀ (j : Nat) (f : Field), fs[j]? = some f → ∃ v q z, us[j]? = some v ∧ DataW.trod enc P W 0 (fun _ => true) true q f.type [v] = some z := by
  obtain ⟨ys, n', hn', hy, hlen, hyl, hf⟩ := DataW.trod_struct he h
  rw [hC] at hlen
  refine ⟨hlen, fun j f hj => ?_⟩
  obtain ⟨ho, hk⟩ := hone_of hone j f hj
  have hjl : j < fs.size := (Array.getElem?_eq_some_iff.1 hj).1
  have h1 := hf j f hj
  rw [ho, hk] at h1
  have hone' : (us.drop j).take 1 = [us[j]'(by omega)] := by
    rw [List.drop_eq_getElem_cons (by omega)]
    rfl
  rw [hone'] at h1
  have hys : ys[j]? = some (ys[j]'(by omega)) := List.getElem?_eq_getElem (by omega)
  exact ⟨_, _, _, List.getElem?_eq_getElem (by omega), h1.trans hys⟩

/-- An argument that is a slice, out of what is known of its type. -/
theorem opens_arg {t e : TypeId} {α : Type} {R : Value → α → Prop} (ht : P.underlying t = some (.slice e)) (hO : Opens enc P W t R) {v : Value} {d : DataW H} {p : List MemPlace} (ho : Value.okWide P W .any base t v)
    (h : DataW.Trod enc P W 0 (fun _ => true) true t v d p) : ∃ x, R v x := by
  obtain ⟨A, n, c, rfl⟩ := okWide_slice ht ho
  obtain ⟨fuel, hf⟩ := h
  exact hO fuel _ _ hf
/-- An argument that is a struct of one-cell fields. -/
theorem opens_struct {t : TypeId} {fs : Array Field} (he : P.underlying t = some (.struct fs)) (hone : oneCellFields P fs = true) (hC : P.cellsOf t = fs.size) {v : Value} {d : DataW H} {p : List MemPlace}
    (ho : Value.okWide P W .any base t v) (h : DataW.Trod enc P W 0 (fun _ => true) true t v d p) :
    ∃ cs : Array Value, v = .agg cs ∧ cs.size = fs.size ∧ ∀ (j : Nat) (f : Field), fs[j]? = some f → ∃ u q z, cs[j]? = some u ∧ DataW.trod enc P W 0 (fun _ => true) true q f.type [u] = some z := by
  obtain ⟨cs, rfl, hs⟩ := okWide_struct he ho
  obtain ⟨fuel, hf⟩ := h
  have hf' : DataW.trod enc P W 0 (fun _ => true) true fuel t cs.toList = some (d, p) := hf
  obtain ⟨hl, hj⟩ := opens_fields he hone hC hf'
  refine ⟨cs, rfl, by rw [hs, hC], fun j f hjf => ?_⟩
  obtain ⟨u, q, z, h1, h2⟩ := hj j f hjf
  exact ⟨u, q, z, by rw [← h1]; simp, h2⟩
theorem opens_fld {e : TypeId} {fs : Array Field} {j sz : Nat} {f : Field} (he : P.underlying e = some (.struct fs)) (hj : fs[j]? = some f) (hs : P.cellsOf f.type = sz) {us : List Value} {n : Nat} {y : DataW H × List MemPlace}
    (h : DataW.trod enc P W 0 (fun _ => true) true n e us = some y) : ∃ q z, DataW.trod enc P W 0 (fun _ => true) true q f.type ((us.drop f.offset).take sz) = some z := by
  obtain ⟨ys, n', hn', hy, hlen, hyl, hf⟩ := DataW.trod_struct he h
  have h1 := hf j f hj
  rw [hs] at h1
  have hjl : j < fs.size := (Array.getElem?_eq_some_iff.1 hj).1
  have hys : ys[j]? = some (ys[j]'(by omega)) := List.getElem?_eq_getElem (by omega)
  exact ⟨_, _, h1.trans hys⟩
end

end Go.Proofs.Ytolcgopfbbmjgaa
