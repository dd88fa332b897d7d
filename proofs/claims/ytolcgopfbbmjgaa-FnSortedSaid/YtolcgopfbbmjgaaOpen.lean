/-
  Arguments opened: a slice of int64, a slice of events, as what the walks are told of them.
-/
import Derived.Test.YtolcgopfbbmjgaaMem
import Derived.ProofKit
import Derived.OpenShut
import Derived.ShutString
import Derived.ChangeOld
import Derived.Deep.Slices
import Derived.Deep.Fields
import Derived.ChangeSame
namespace Go.Proofs.Ytolcgopfbbmjgaa
set_option linter.unusedVariables false
set_option linter.unusedSimpArgs false
open Go.ChangeShapes Go.WideShapes Go.ChangeAt Go.RowKit Go.Deep
open Go.ChangeMaps (open_string shut_string)

section
variable {H : Type} {enc : TypeId × Value → H} {P : Program} {w : World} {base : Nat} {spare : Nat → Bool} {held : Bool}
theorem open_slice_fields {t e : TypeId} {fs : Array Field} {fuel : Nat} {cs : List Value} {x : DataW H × List MemPlace} (ht : P.underlying t = some (.slice e)) (he : P.underlying e = some (.struct fs))
    (hone : oneCellFields P fs = true) (hC : P.cellsOf e = fs.size) (h : DataW.trod enc P w base spare held fuel t cs = some x) :
    (cs = [.slice none 0 0] ∧ x = (.nil, [])) ∨
    ∃ (a : Addr) (len cap m : Nat) (D : Nat → DataW H) (Pl : Nat → List MemPlace), cs = [.slice (some a) len cap] ∧ base ≤ a.block ∧ len ≤ cap ∧ cap ≤ maxLen ∧ m = (if spare a.block then cap else len) ∧
      x = (.slice ((List.range len).map D) ((List.range (m - len)).map fun j => D (len + j)), MemPlace.row a (m * fs.size) ++ (List.range m).flatMap Pl) ∧
      ∀ i, i < m → ∃ (ys : List (DataW H × List MemPlace)) (n : Nat), D i = .agg (ys.map (·.1)) ∧ Pl i = ys.flatMap (·.2) ∧ ys.length = fs.size ∧
        ∀ (j : Nat) (f : Field), fs[j]? = some f → ∃ (v : Value) (y : DataW H × List MemPlace), w.cell? (a.add (i * fs.size + j)) = some v ∧ ys[j]? = some y ∧ DataW.trod enc P w base spare held n f.type [v] = some y := by
  rcases open_slice ht h with h0 | ⟨a, len, cap, m, n, D, Pl, hcs, hb, hl, hm, hmm, hx, hi⟩
  · exact .inl h0
  · refine .inr ⟨a, len, cap, m, D, Pl, hcs, hb, hl, hm, hmm, by rw [hC] at hx; exact hx, fun i him => ?_⟩
    obtain ⟨cs', hc, ht'⟩ := hi i him
    rw [hC] at hc
    obtain ⟨ys, n', hn', hy, hlen, hyl, hf⟩ := DataW.trod_struct he ht'
    obtain ⟨_, hcl, hat⟩ := World.cells?_some hc
    simp only [Prod.mk.injEq] at hy
    refine ⟨ys, n', hy.1, hy.2, hyl, fun j f hj => ?_⟩
    obtain ⟨ho, hk⟩ := hone_of hone j f hj
    have hjl : j < fs.size := (Array.getElem?_eq_some_iff.1 hj).1
    have hcell := hat j hjl
    have hv : cs'[j]? = some (cs'[j]'(by omega)) := List.getElem?_eq_getElem (by omega)
    have h1 := hf j f hj
    rw [ho, hk] at h1
    have hone' : (cs'.drop j).take 1 = [cs'[j]'(by omega)] := by
      rw [List.drop_eq_getElem_cons (by omega)]
      rfl
    rw [hone'] at h1
    have hys : ys[j]? = some (ys[j]'(by omega)) := List.getElem?_eq_getElem (by omega)
    refine ⟨_, _, ?_, hys, h1.trans hys⟩
    rw [← Go.Deep.add_add, hcell, hv]
end

/-- The numbers of a list fit an int64. -/
def Fit (x : Int) : Prop := -9223372036854775808 ≤ x ∧ x ≤ 9223372036854775807

theorem fit_of_wf {x : Int} (h : (Lit.int .i64 x).wf = true) : Fit x := by
  simp [Lit.wf, IntKind.min, IntKind.max, IntKind.signed, IntKind.bits] at h
  exact ⟨by omega, by omega⟩

theorem addr_of_cell {w : World} {a : Addr} {i : Nat} {v : Value} (h : w.cell? (a.add i) = some v) (h0 : ∃ u, w.cell? (a.add 0) = some u) : a = ⟨a.block, a.off, none⟩ ∧ a.block < w.heap.size ∧ w.cell? ⟨a.block, a.off + i, none⟩ = some v := by
  obtain ⟨b, off, spot⟩ := a
  obtain ⟨u, h0⟩ := h0
  have hs : spot = none := by simpa [Addr.add] using World.cell?_spot h0
  subst hs
  have e : (⟨b, off, none⟩ : Addr).add i = ⟨b, off + i, none⟩ := by unfold Addr.add; split <;> simp_all
  rw [e] at h
  have hb := block_lt_of_cell h
  exact ⟨rfl, hb, h⟩

section
variable {H : Type} {enc : TypeId × Value → H} {P : Program} {W : World} {base : Nat} {d : DataW H} {p : List MemPlace} {v : Value}

theorem open_rdI {t e : TypeId} (ht : P.underlying t = some (.slice e)) (he : P.underlying e = some (.int .i64)) (hc : P.cellsOf e = 1) (ho : Value.okWide P W .any base t v)
    (h : DataW.Trod enc P W 0 (fun _ => true) true t v d p) : ∃ l, RdI W W.heap.size v l ∧ ∀ x ∈ l, Fit x := by
  obtain ⟨A, n, c, rfl⟩ := okWide_slice ht ho
  obtain ⟨fuel, hf⟩ := h
  rcases open_ints ht he hc hf with ⟨hcs, _⟩ | ⟨a, l', c', zs, hcs, _, hl, hm, hz, _, hcell, hwz⟩
  · simp [Value.cells] at hcs
    obtain ⟨rfl, rfl, rfl⟩ := hcs
    exact ⟨[], ⟨none, 0, 0, rfl, by omega, rfl, fun k hk => absurd hk (by omega)⟩, by simp⟩
  · simp [Value.cells] at hcs
    obtain ⟨rfl, rfl, rfl⟩ := hcs
    simp only [if_true] at hz
    refine ⟨zs.take n, ⟨some a, n, c, rfl, by unfold maxLen at hm; omega, by unfold Hid; simp; omega, fun k hk => ?_⟩, fun x hx => fit_of_wf (hwz x (List.mem_of_mem_take hx))⟩
    obtain ⟨h1, h2, h3⟩ := addr_of_cell (hcell k (by omega)) ⟨_, hcell 0 (by omega)⟩
    refine ⟨a.block, a.off, zs.getD k 0, by rw [← h1], h2, ?_, h3⟩
    rw [List.getElem?_take, if_pos hk, List.getD_eq_getElem?_getD, List.getElem?_eq_getElem (by omega)]
    rfl

theorem open_int1 {t : TypeId} {w : World} {b : Nat} {sp : Nat → Bool} {hd : Bool} {n : Nat} {u : Value} {y : DataW H × List MemPlace} (ht : P.underlying t = some (.int .i64)) (h : DataW.trod enc P w b sp hd n t [u] = some y) : ∃ x, u = .int .i64 x ∧ Fit x := by
  obtain ⟨x, e0, _, wx⟩ := DataW.trod_int ht h
  simp at e0
  exact ⟨x, e0, fit_of_wf wx⟩

theorem build_list {α : Type} {n : Nat} {R : Nat → α → Prop} (h : ∀ k, k < n → ∃ x, R k x) : ∃ l : List α, l.length = n ∧ ∀ k, k < n → ∃ x, l[k]? = some x ∧ R k x := by
  have : ∀ q, q ≤ n → ∃ l : List α, l.length = q ∧ ∀ k, k < q → ∃ x, l[k]? = some x ∧ R k x := by
    intro q
    induction q with
    | zero => intro _; exact ⟨[], rfl, fun k hk => absurd hk (by omega)⟩
    | succ q ih =>
      intro hq
      obtain ⟨l, hlen, hall⟩ := ih (by omega)
      obtain ⟨e, he⟩ := h q (by omega)
      refine ⟨l ++ [e], by simp [hlen], fun k hk => ?_⟩
      by_cases hkq : k = q
      · subst hkq
        exact ⟨e, by simp [← hlen], he⟩
      · obtain ⟨e', h1, h2⟩ := hall k (by omega)
        exact ⟨e', by rw [List.getElem?_append_left (by omega)]; exact h1, h2⟩
  exact this n (Nat.le_refl _)

/-- A slice of structs of int64 fields. -/
theorem open_rdS {t e i : TypeId} {fs : Array Field} (ht : P.underlying t = some (.slice e)) (he : P.underlying e = some (.struct fs)) (hone : oneCellFields P fs = true) (hC : P.cellsOf e = fs.size) (hp : 0 < fs.size)
    (hi : fs.all (fun f => f.type == i) = true) (hu : P.underlying i = some (.int .i64)) (ho : Value.okWide P W .any base t v)
    (h : DataW.Trod enc P W 0 (fun _ => true) true t v d p) : ∃ l : List (List Int), RdS (fun xs => xs.map (Value.int .i64)) fs.size W W.heap.size v l ∧ ∀ xs ∈ l, xs.length = fs.size ∧ ∀ x ∈ xs, Fit x := by
  obtain ⟨A, n, c, rfl⟩ := okWide_slice ht ho
  obtain ⟨fuel, hf⟩ := h
  rcases open_slice_fields ht he hone hC hf with ⟨hcs, _⟩ | ⟨a, n', c', m, D, Pl, hcs, _, hl, hm, hmm, _, hel⟩
  · simp [Value.cells] at hcs
    obtain ⟨rfl, rfl, rfl⟩ := hcs
    exact ⟨[], ⟨none, 0, 0, rfl, by omega, rfl, fun k hk => absurd hk (by omega)⟩, by simp⟩
  · simp [Value.cells] at hcs
    obtain ⟨rfl, rfl, rfl⟩ := hcs
    simp only [if_true] at hmm
    subst hmm
    have hf1 : ∀ k j, k < m → j < fs.size → ∃ x, Fit x ∧ W.cell? (a.add (k * fs.size + j)) = some (.int .i64 x) := by
      intro k j hk hj
      obtain ⟨ys, q, _, _, _, hfs⟩ := hel k hk
      have hfj : fs[j]? = some fs[j] := Array.getElem?_eq_getElem hj
      obtain ⟨u, y, c0, _, t0⟩ := hfs j _ hfj
      have hty : fs[j].type = i := by
        rw [Array.all_eq_true] at hi
        simpa using hi j hj
      obtain ⟨x, rfl, wx⟩ := open_int1 (by rw [hty]; exact hu) t0
      exact ⟨x, wx, c0⟩
    have hE : ∀ k, k < m → ∃ xs : List Int, (xs.length = fs.size ∧ ∀ x ∈ xs, Fit x) ∧ a = ⟨a.block, a.off, none⟩ ∧ a.block < W.heap.size ∧ CellsAt W a.block (a.off + k * fs.size) (xs.map (Value.int .i64)) := by
      intro k hk
      have hz : ∃ u, W.cell? (a.add 0) = some u := by
        obtain ⟨x, _, h0⟩ := hf1 0 0 (by omega) hp
        exact ⟨_, by simpa using h0⟩
      obtain ⟨xs, hlen, hxs⟩ := build_list (fun j hj => hf1 k j hk hj)
      obtain ⟨x0, _, _, h0⟩ := hxs 0 hp
      obtain ⟨ha, hb, _⟩ := addr_of_cell h0 hz
      refine ⟨xs, ⟨hlen, fun x hx => ?_⟩, ha, hb, fun j u hu => ?_⟩
      · obtain ⟨j, hj, rfl⟩ := List.mem_iff_getElem.1 hx
        obtain ⟨x', h1, h2, _⟩ := hxs j (by omega)
        rw [List.getElem?_eq_getElem hj] at h1
        injection h1 with h1
        rw [h1]
        exact h2
      · rw [List.getElem?_map] at hu
        obtain ⟨x, hx, rfl⟩ := Option.map_eq_some_iff.1 hu
        obtain ⟨x', h1, _, h2⟩ := hxs j (by rw [← hlen]; exact (List.getElem?_eq_some_iff.1 hx).1)
        rw [hx] at h1
        injection h1 with h1
        subst h1
        rw [Nat.add_assoc]
        exact (addr_of_cell h2 hz).2.2
    obtain ⟨l, hlen, hall⟩ := build_list (n := n) (fun k hk => hE k (by omega))
    refine ⟨l, ⟨some a, _, _, rfl, by unfold maxLen at hm; omega, hlen, fun k hk => ?_⟩, fun x hx => ?_⟩
    · obtain ⟨e, h1, _, ha, hb, hc⟩ := hall k hk
      exact ⟨a.block, a.off, e, by rw [← ha], hb, h1, hc⟩
    · obtain ⟨k, hk, rfl⟩ := List.mem_iff_getElem.1 hx
      obtain ⟨e, h1, h2, _⟩ := hall k (by omega)
      rw [List.getElem?_eq_getElem hk] at h1
      injection h1 with h1
      rw [h1]
      exact h2
end

end Go.Proofs.Ytolcgopfbbmjgaa
