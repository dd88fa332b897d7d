/-
  Rows of headers that may begin behind the head of their block (s[1:]), and one append to them.
-/
import Derived.Test.YtfeonaocmnpkcaaAppend
import Derived.Test.YtfeonaocmnpkcaaHRow
namespace Go.Proofs.Ytfeonaocmnpkcaa
set_option linter.unusedVariables false
set_option linter.unusedSimpArgs false
open Go.RowKit

/-- A row of n elements of one cell of the call's own, from some place of its block on. -/
def OffRow (w : World) (lo : Nat) (E : TypeId) (v : Value) (n : Nat) (xs : List Value) : Prop :=
  xs.length = n ∧ ((v = .slice none 0 0 ∧ n = 0) ∨ ∃ g off cap cur, v = .slice (some ⟨g, off, none⟩) n cap ∧ lo ≤ g ∧ w.heap[g]? = some (.cells cur E (0, 0)) ∧ n ≤ cap ∧ cap ≤ maxLen ∧ off + cap ≤ cur.size ∧ ∀ j, j < n → xs[j]? = cur[off + j]?)
theorem OffRow.nil (w : World) (lo : Nat) (E : TypeId) : OffRow w lo E (.slice none 0 0) 0 [] := ⟨rfl, .inl ⟨rfl, rfl⟩⟩
theorem OffRow.block {w w' : World} {lo : Nat} {E : TypeId} {v : Value} {n : Nat} {xs : List Value} (h : OffRow w lo E v n xs) (hb : ∀ g, v.ownBlock = some g → g < w.heap.size → w'.heap[g]? = w.heap[g]?) : OffRow w' lo E v n xs := by
  refine ⟨h.1, ?_⟩
  rcases h.2 with h2 | ⟨g, off, cap, cur, rfl, hlo, hg, h3⟩
  · exact .inl h2
  · exact .inr ⟨g, off, cap, cur, rfl, hlo, (hb g rfl (Array.getElem?_eq_some_iff.1 hg).1).trans hg, h3⟩
theorem OffRow.lt {w : World} {lo : Nat} {E : TypeId} {v : Value} {n : Nat} {xs : List Value} (h : OffRow w lo E v n xs) : ∀ g, v.ownBlock = some g → lo ≤ g ∧ g < w.heap.size := by
  intro g hg
  rcases h.2 with ⟨rfl, _⟩ | ⟨g', off, cap, cur, rfl, hlo, hh, _⟩
  · cases hg
  · injection hg with hg
    subst hg
    exact ⟨hlo, (Array.getElem?_eq_some_iff.1 hh).1⟩
theorem OffRow.shape {w : World} {lo : Nat} {E : TypeId} {v : Value} {n : Nat} {xs : List Value} (h : OffRow w lo E v n xs) : ∃ A c, v = .slice A n c ∧ n ≤ c ∧ c ≤ maxLen := by
  rcases h.2 with ⟨rfl, rfl⟩ | ⟨g, off, cap, cur, rfl, _, _, h1, h2, _⟩
  · exact ⟨none, 0, rfl, Nat.le_refl _, Nat.zero_le _⟩
  · exact ⟨_, cap, rfl, h1, h2⟩
theorem OffRow.base {w : World} {lo : Nat} {E : TypeId} {v : Value} {n : Nat} {xs : List Value} (h : OffRow w lo E v n xs) (hn : 0 < n) :
    ∃ g off cap, v = .slice (some ⟨g, off, none⟩) n cap ∧ lo ≤ g ∧ g < w.heap.size ∧ n ≤ cap ∧ cap ≤ maxLen ∧ (∀ j u, xs[j]? = some u → w.cell? ⟨g, off + j, none⟩ = some u) ∧ ∀ i, w.frozen? ⟨g, i, none⟩ = false := by
  rcases h.2 with ⟨rfl, h0⟩ | ⟨g, off, cap, cur, rfl, hlo, hh, h1, h2, h3, h4⟩
  · omega
  · refine ⟨g, off, cap, rfl, hlo, (Array.getElem?_eq_some_iff.1 hh).1, h1, h2, fun j u hu => ?_, fun i => frozen_of_row w g i cur E hh⟩
    have hj : j < n := by rw [← h.1]; exact (List.getElem?_eq_some_iff.1 hu).1
    rw [cell_of_row w g (off + j) cur E (0, 0) hh, ← h4 j hj, hu]
/-- The first element taken off. -/
theorem OffRow.tail {w : World} {lo : Nat} {E : TypeId} {g off n cap : Nat} {xs : List Value} (h : OffRow w lo E (.slice (some ⟨g, off, none⟩) (n + 1) cap) (n + 1) xs) :
    OffRow w lo E (if cap = 1 then .slice (some ⟨g, off, none⟩) n (cap - 1) else .slice (some ⟨g, off + 1, none⟩) n (cap - 1)) n (xs.drop 1) := by
  rcases h.2 with ⟨e, _⟩ | ⟨g', off', cap', cur, e, hlo, hh, h1, h2, h3, h4⟩
  · cases e
  · injection e with e1 e2 e3
    injection e1 with e1
    injection e1 with e1 e4
    subst e1 e3 e4
    refine ⟨by rw [List.length_drop, h.1]; omega, .inr ?_⟩
    by_cases hc : cap = 1
    · rw [if_pos hc]
      have hn0 : n = 0 := by omega
      subst hn0
      exact ⟨g, off, cap - 1, cur, rfl, hlo, hh, Nat.zero_le _, by omega, by omega, fun j hj => absurd hj (by omega)⟩
    · rw [if_neg hc]
      refine ⟨g, off + 1, cap - 1, cur, rfl, hlo, hh, by omega, by omega, by omega, fun j hj => ?_⟩
      rw [List.getElem?_drop, show 1 + j = j + 1 by omega, h4 (j + 1) (by omega), show off + (j + 1) = off + 1 + j by omega]
/-- The last element taken off. -/
theorem OffRow.init {w : World} {lo : Nat} {E : TypeId} {g off n cap : Nat} {xs : List Value} (h : OffRow w lo E (.slice (some ⟨g, off, none⟩) (n + 1) cap) (n + 1) xs) :
    OffRow w lo E (.slice (some ⟨g, off, none⟩) n cap) n (xs.take n) := by
  rcases h.2 with ⟨e, _⟩ | ⟨g', off', cap', cur, e, hlo, hh, h1, h2, h3, h4⟩
  · cases e
  · injection e with e1 e2 e3
    injection e1 with e1
    injection e1 with e1 e4
    subst e1 e3 e4
    refine ⟨by rw [List.length_take, h.1]; omega, .inr ⟨g, off, cap, cur, rfl, hlo, hh, by omega, h2, h3, fun j hj => ?_⟩⟩
    rw [List.getElem?_take, if_pos hj, h4 j (by omega)]
/-- An element replaced. -/
theorem OffRow.set {w : World} {lo : Nat} {E : TypeId} {g off n cap i : Nat} {xs : List Value} {s : Value} (h : OffRow w lo E (.slice (some ⟨g, off, none⟩) n cap) n xs) (hi : i < n) :
    OffRow (w.setCell ⟨g, off + i, none⟩ s) lo E (.slice (some ⟨g, off, none⟩) n cap) n (xs.set i s) := by
  rcases h.2 with ⟨e, _⟩ | ⟨g', off', cap', cur, e, hlo, hh, h1, h2, h3, h4⟩
  · cases e
  · injection e with e1 e2 e3
    injection e1 with e1
    injection e1 with e1 e4
    subst e1 e3 e4
    obtain ⟨cur', k1, k2, k3⟩ := (show w.rowIs g E cur.size (fun i => cur.getD i undef) from ⟨cur, hh, rfl, fun i hi => row_getD hi⟩).set (off + i) s
    refine ⟨by rw [List.length_set, h.1], .inr ⟨g, off, cap, cur', rfl, hlo, k1, h1, h2, by omega, fun j hj => ?_⟩⟩
    rw [k3 (off + j) (by omega)]
    by_cases hij : i = j
    · subst hij
      rw [List.getElem?_set_self (by rw [h.1]; exact hi)]
      simp
    · rw [List.getElem?_set_ne hij, h4 j hj, row_getD (by omega)]
      simp [show ¬ j = i by omega]

section
variable {P : Program} (w : World)
theorem run_append_off (lo : Nat) (t ty e : TypeId) (i : TypeInfo) (z : Value) (bytes : Nat) (ht : P.underlying t = some (.slice e)) (hi : P.info? e = some i) (hz : i.zero = some z)
    (hsize : i.size = 1) (hby : i.bytes = bytes) (hzs : z.cells.size = 1) (v : Value) (n : Nat) (xs : List Value) (hown : OffRow w lo e v n xs) (hone : ∀ u ∈ xs, u.oneCell' = true)
    (a : Addr) (c : Nat) (s : Value) (ha : w.cell? a = some s) (h1 : s.oneCell' = true) (hn : n ≤ 1000000) (hbytes : bytes ≤ 1000) (hlo : lo ≤ w.heap.size) :
    ∃ v' w', (Builtin.append_ #[t, t] ty #[v, .slice (some a) 1 c]).run P w = .ok v' w' ∧ OffRow w' lo e v' (n + 1) (xs ++ [s]) ∧ w.grownBy w' v.ownBlock ∧ (v'.ownBlock = v.ownBlock ∨ v'.ownBlock = some w.heap.size) := by
  have hnews : ∀ j u, [s][j]? = some u → w.cell? (a.add j) = some u := by
    intro j u hu
    rcases j with _ | j
    · simp at hu; subst hu; simpa [Addr.add] using ha
    · simp at hu
  have hb1 : (n + 1) * bytes ≤ 140737488355328 := Nat.le_trans (Nat.mul_le_mul (show n + 1 ≤ 1000001 by omega) hbytes) (by decide)
  rcases hown.2 with ⟨rfl, rfl⟩ | ⟨g, off, cap, cur, rfl, hlo', hg, hnc, hcap, hsz, hx⟩
  · have hxs : xs = [] := List.eq_nil_of_length_eq_zero hown.1
    subst hxs
    have hrun := run_append_nil (P := P) w t ty e i z ht hi hz a 1 c [s] (by simp [hsize]) hnews (by omega) (by omega) (by rw [hby]; omega)
    refine ⟨_, _, hrun, ⟨rfl, .inr ⟨w.heap.size, 0, _, _, rfl, hlo, heap_alloc_new w.drew _, grownCap_ge w 1 0 e, grownCap_le_maxLen w 1 0 e (by unfold maxLen; omega), ?_, fun j hj => ?_⟩⟩, ⟨rfl, rfl, rfl, by simp, fun k hk _ => heap_alloc_old w.drew _ hk⟩, .inr rfl⟩
    · have := grownCap_ge w 1 0 e
      simp [Builtin.zeroCells, hzs]
      omega
    · have : j = 0 := by omega
      subst this
      rw [Array.getElem?_append_left (by simp)]
      rfl
  · by_cases hroom : n + 1 ≤ cap
    · have hst := run_storeCells_at (P := P) g (off + n) e [s] 0 cur w hg (by simp; omega) (by simpa using h1)
      have hf := run_firstCells_some (P := P) w i.size 1 a 1 c [s] (by simp [hsize]) hnews
      simp only [Nat.add_zero] at hst
      rw [hsize] at hf
      have hrun : (Builtin.append_ #[t, t] ty #[.slice (some ⟨g, off, none⟩) n cap, .slice (some a) 1 c]).run P w = .ok (.slice (some ⟨g, off, none⟩) (n + 1) cap) (w.setRow g (cur.toList.take (off + n) ++ [s] ++ cur.toList.drop (off + n + [s].length)).toArray) := by
        simp [Builtin.append_, run_underlying ht, sizeOf, typeInfo, hi, Builtin.lenOf, hroom, hf, Addr.add_lit, hsize]
        rw [show (Sem.run P (storeCells { block := g, off := off + n } [s]) w) = _ from hst]
        simp
      refine ⟨_, _, hrun, ⟨by simp [hown.1], .inr ⟨g, off, cap, _, rfl, hlo', setRow_heap w g cur _ e (0, 0) hg, hroom, hcap, ?_, fun j hj => ?_⟩⟩, ⟨rfl, rfl, rfl, by simp, fun k hk hne => setRow_other w g k _ (fun e => hne (by rw [e]; rfl))⟩, .inl rfl⟩
      · simp; omega
      · have hlt : (cur.toList.take (off + n)).length = off + n := by rw [List.length_take]; simp; omega
        by_cases hjn : j < n
        · rw [List.getElem?_append_left (by rw [hown.1]; exact hjn), hx j hjn]
          simp only [List.append_assoc, List.getElem?_toArray]
          rw [List.getElem?_append_left (by omega), List.getElem?_take, if_pos (by omega), Array.getElem?_toList]
        · have hje : j = n := by omega
          subst hje
          rw [List.getElem?_append_right (by rw [hown.1]; exact Nat.le_refl _), hown.1]
          simp only [List.append_assoc, List.getElem?_toArray]
          rw [List.getElem?_append_right (by omega), hlt]
          simp
    · have hxc : ∀ j u, xs[j]? = some u → w.cell? ((⟨g, off, none⟩ : Addr).add j) = some u := fun j u hu => by
        have hj : j < n := by rw [← hown.1]; exact (List.getElem?_eq_some_iff.1 hu).1
        rw [Addr.add_lit, cell_of_row w g (off + j) cur e (0, 0) hg, ← hx j hj, hu]
      have hnc' : cap = n := by omega
      subst hnc'
      have hrun := run_append_grow (P := P) w t ty e i z ht hi hz ⟨g, off, none⟩ cap cap xs (by rw [hown.1, hsize, Nat.mul_one]) hxc a 1 c [s] (by simp [hsize]) hnews (by omega) (by omega) (by rw [hby]; exact growslice_fits (by omega) hb1)
      refine ⟨_, _, hrun, ⟨by simp [hown.1], .inr ⟨w.heap.size, 0, _, _, rfl, hlo, heap_alloc_new w.drew _, grownCap_ge w (cap + 1) cap e, grownCap_le_maxLen w (cap + 1) cap e (by unfold maxLen; omega), ?_, fun j hj => ?_⟩⟩, ⟨rfl, rfl, rfl, by simp, fun k hk _ => heap_alloc_old w.drew _ hk⟩, .inr rfl⟩
      · have := grownCap_ge w (cap + 1) cap e
        simp [Builtin.zeroCells, hzs, hown.1]
        omega
      · rw [Nat.zero_add]
        have hl : (xs ++ [s]).length = cap + 1 := by simp [hown.1]
        rw [show xs.toArray ++ [s].toArray = (xs ++ [s]).toArray by simp, Array.getElem?_append_left (by simp [hown.1]; omega)]
        simp
theorem step_append_off {ops : Array Oper} {o : Oper} {a : Go.Act} {K : Go.Act → World → Prop} {Q : Exit → Go.Act → World → Prop} {E : Prop} (hgd : o.guard = none) (s x : Operand) (t : TypeId)
    (ho : o.op = .call { callee := .builtin .append, args := #[s, x], argTypes := #[t, t] })
    (lo : Nat) (e : TypeId) (i : TypeInfo) (z : Value) (bytes : Nat) (ht : P.underlying t = some (.slice e)) (hi : P.info? e = some i) (hz : i.zero = some z)
    (hsize : i.size = 1) (hby : i.bytes = bytes) (hzs : z.cells.size = 1)
    (v : Value) (n : Nat) (xs : List Value) (hs : a.eval s = v) (hown : OffRow w lo e v n xs) (hone : ∀ u ∈ xs, u.oneCell' = true)
    (ad : Addr) (c : Nat) (sv : Value) (hx : a.eval x = .slice (some ad) 1 c) (ha : w.cell? ad = some sv) (h1 : sv.oneCell' = true) (hn : n ≤ 1000000) (hbytes : bytes ≤ 1000) (hlo : lo ≤ w.heap.size)
    (h : ∀ v' w', OffRow w' lo e v' (n + 1) (xs ++ [sv]) → w.grownBy w' v.ownBlock → (v'.ownBlock = v.ownBlock ∨ v'.ownBlock = some w.heap.size) → K (a.put o.dst v') w') :
    if Region.wanted o (yielded ops a.tmps) = true then Oper.wp P o a w K Q else E := by
  have hw : Region.wanted o (yielded ops a.tmps) = true := by simp [Region.wanted, hgd]
  rw [if_pos hw]
  obtain ⟨v', w', hrun, h2, h3, h4⟩ := run_append_off (P := P) w lo t o.type e i z bytes ht hi hz hsize hby hzs v n xs hown hone ad c sv ha h1 hn hbytes hlo
  unfold Oper.wp execOp
  simp only [ho, resolve, invoke, builtin, Sem.run_bind, Sem.run_pure, Result.andThen_ok, List.map_toArray, List.map_cons, List.map_nil, hs, hx, hrun]
  exact h v' w' h2 h3 h4
end

end Go.Proofs.Ytfeonaocmnpkcaa
