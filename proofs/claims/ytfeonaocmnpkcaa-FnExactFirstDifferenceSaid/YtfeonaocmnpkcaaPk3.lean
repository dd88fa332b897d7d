/-
  Texts joined: Off, GarK, GarM, GarN, GarO, GarP, GarQ, Bks1, Bks2, BlkE, BlkF, Bks3, GarR, GarS, GarT, Bks4.
-/
import Derived.Test.YtfeonaocmnpkcaaPk1
import Derived.Test.YtfeonaocmnpkcaaPk2
import Derived.Deep.Cut
import Derived.Deep.CutRange
import Derived.Deep.RegionLaw
import Derived.Deep.AppendLies
import Derived.Test.YtfeonaocmnpkcaaL10e
import Derived.Test.YtfeonaocmnpkcaaStrands
import Derived.Deep.RegionHeld3
import Derived.OwnWalk
/-
  Rows of headers that may begin behind the head of their block (s[1:]), and one append to them.
-/
namespace Go.Proofs.Ytfeonaocmnpkcaa
set_option linter.unusedVariables false
set_option linter.unusedSimpArgs false
open Go.RowKit

/-- A row of n elements of one cell of the call's own, from some place of its block on. -/
def OffRow (w : World) (lo : Nat) (E : TypeId) (v : Value) (n : Nat) (xs : List Value) : Prop :=
  xs.length = n ∧ ((v = .slice none 0 0 ∧ n = 0) ∨ ∃ g off cap cur, v = .slice (some ⟨g, off, none⟩) n cap ∧ lo ≤ g ∧ w.heap[g]? = some (.cells cur E (0, 0)) ∧ n ≤ cap ∧ cap ≤ maxLen ∧ off + cap ≤ cur.size ∧ ∀ j, j < n → xs[j]? = cur[off + j]?)
theorem OffRow.nil (w : World) (lo : Nat) (E : TypeId) : OffRow w lo E (.slice none 0 0) 0 [] := ⟨rfl, .inl ⟨rfl, rfl⟩⟩
theorem OffRow.block {w w' : World} {lo : Nat} {E : TypeId} {v : Value} {n : Nat} {xs : List Value} (h : OffRow w lo E v n xs) (hb : ∀ g, v.ownBlock = some g → g < w.heap.size → w'.heap[g]? = w.heap[g]?) : OffRow w' lo E v n xs := by
  refine ⟨h.1, ?_⟩
  rcases h.2 with h2 | ⟨g, off, cap, cur, rfl, hlo, hg, h3⟩
  · exact .inl h2
  · exact .inr ⟨g, off, cap, cur, rfl, hlo, (hb g rfl (Array.getElem?_eq_some_iff.1 hg).1).trans hg, h3⟩
theorem OffRow.lt {w : World} {lo : Nat} {E : TypeId} {v : Value} {n : Nat} {xs : List Value} (h : OffRow w lo E v n xs) : ∀ g, v.ownBlock = some g → lo ≤ g ∧ g < w.heap.size := by
  intro g hg
  rcases h.2 with ⟨rfl, _⟩ | ⟨g', off, cap, cur, rfl, hlo, hh, _⟩
  · cases hg
  · injection hg with hg
    subst hg
    exact ⟨hlo, (Array.getElem?_eq_some_iff.1 hh).1⟩
theorem OffRow.shape {w : World} {lo : Nat} {E : TypeId} {v : Value} {n : Nat} {xs : List Value} (h : OffRow w lo E v n xs) : ∃ A c, v = .slice A n c ∧ n ≤ c ∧ c ≤ maxLen := by
  rcases h.2 with ⟨rfl, rfl⟩ | ⟨g, off, cap, cur, rfl, _, _, h1, h2, _⟩
  · exact ⟨none, 0, rfl, Nat.le_refl _, Nat.zero_le _⟩
  · exact ⟨_, cap, rfl, h1, h2⟩
theorem OffRow.base {w : World} {lo : Nat} {E : TypeId} {v : Value} {n : Nat} {xs : List Value} (h : OffRow w lo E v n xs) (hn : 0 < n) :
    ∃ g off cap, v = .slice (some ⟨g, off, none⟩) n cap ∧ lo ≤ g ∧ g < w.heap.size ∧ n ≤ cap ∧ cap ≤ maxLen ∧ (∀ j u, xs[j]? = some u → w.cell? ⟨g, off + j, none⟩ = some u) ∧ ∀ i, w.frozen? ⟨g, i, none⟩ = false := by
  rcases h.2 with ⟨rfl, h0⟩ | ⟨g, off, cap, cur, rfl, hlo, hh, h1, h2, h3, h4⟩
  · omega
  · refine ⟨g, off, cap, rfl, hlo, (Array.getElem?_eq_some_iff.1 hh).1, h1, h2, fun j u hu => ?_, fun i => frozen_of_row w g i cur E hh⟩
    have hj : j < n := by rw [← h.1]; exact (List.getElem?_eq_some_iff.1 hu).1
    rw [cell_of_row w g (off + j) cur E (0, 0) hh, ← h4 j hj, hu]
/-- The first element taken off. -/
theorem OffRow.tail {w : World} {lo : Nat} {E : TypeId} {g off n cap : Nat} {xs : List Value} (h : OffRow w lo E (.slice (some ⟨g, off, none⟩) (n + 1) cap) (n + 1) xs) :
    OffRow w lo E (if cap = 1 then .slice (some ⟨g, off, none⟩) n (cap - 1) else .slice (some ⟨g, off + 1, none⟩) n (cap - 1)) n (xs.drop 1) := by
  rcases h.2 with ⟨e, _⟩ | ⟨g', off', cap', cur, e, hlo, hh, h1, h2, h3, h4⟩
  · cases e
  · injection e with e1 e2 e3
    injection e1 with e1
    injection e1 with e1 e4
    subst e1 e3 e4
    refine ⟨by rw [List.length_drop, h.1]; omega, .inr ?_⟩
    by_cases hc : cap = 1
    · rw [if_pos hc]
      have hn0 : n = 0 := by omega
      subst hn0
      exact ⟨g, off, cap - 1, cur, rfl, hlo, hh, Nat.zero_le _, by omega, by omega, fun j hj => absurd hj (by omega)⟩
    · rw [if_neg hc]
      refine ⟨g, off + 1, cap - 1, cur, rfl, hlo, hh, by omega, by omega, by omega, fun j hj => ?_⟩
      rw [List.getElem?_drop, show 1 + j = j + 1 by omega, h4 (j + 1) (by omega), show off + (j + 1) = off + 1 + j by omega]
/-- The last element taken off. -/
theorem OffRow.init {w : World} {lo : Nat} {E : TypeId} {g off n cap : Nat} {xs : List Value} (h : OffRow w lo E (.slice (some ⟨g, off, none⟩) (n + 1) cap) (n + 1) xs) :
    OffRow w lo E (.slice (some ⟨g, off, none⟩) n cap) n (xs.take n) := by
  rcases h.2 with ⟨e, _⟩ | ⟨g', off', cap', cur, e, hlo, hh, h1, h2, h3, h4⟩
  · cases e
  · injection e with e1 e2 e3
    injection e1 with e1
    injection e1 with e1 e4
    subst e1 e3 e4
    refine ⟨by rw [List.length_take, h.1]; omega, .inr ⟨g, off, cap, cur, rfl, hlo, hh, by omega, h2, h3, fun j hj => ?_⟩⟩
    rw [List.getElem?_take, if_pos hj, h4 j (by omega)]
/-- An element replaced. -/
theorem OffRow.set {w : World} {lo : Nat} {E : TypeId} {g off n cap i : Nat} {xs : List Value} {s : Value} (h : OffRow w lo E (.slice (some ⟨g, off, none⟩) n cap) n xs) (hi : i < n) :
    OffRow (w.setCell ⟨g, off + i, none⟩ s) lo E (.slice (some ⟨g, off, none⟩) n cap) n (xs.set i s) := by
  rcases h.2 with ⟨e, _⟩ | ⟨g', off', cap', cur, e, hlo, hh, h1, h2, h3, h4⟩
  · cases e
  · injection e with e1 e2 e3
    injection e1 with e1
    injection e1 with e1 e4
    subst e1 e3 e4
    obtain ⟨cur', k1, k2, k3⟩ := (show w.rowIs g E cur.size (fun i => cur.getD i undef) from ⟨cur, hh, rfl, fun i hi => row_getD hi⟩).set (off + i) s
    refine ⟨by rw [List.length_set, h.1], .inr ⟨g, off, cap, cur', rfl, hlo, k1, h1, h2, by omega, fun j hj => ?_⟩⟩
    rw [k3 (off + j) (by omega)]
    by_cases hij : i = j
    · subst hij
      rw [List.getElem?_set_self (by rw [h.1]; exact hi)]
      simp
    · rw [List.getElem?_set_ne hij, h4 j hj, row_getD (by omega)]
      simp [show ¬ j = i by omega]

section
variable {P : Program} (w : World)
theorem run_append_off (lo : Nat) (t ty e : TypeId) (i : TypeInfo) (z : Value) (bytes : Nat) (ht : P.underlying t = some (.slice e)) (hi : P.info? e = some i) (hz : i.zero = some z)
    (hsize : i.size = 1) (hby : i.bytes = bytes) (hzs : z.cells.size = 1) (v : Value) (n : Nat) (xs : List Value) (hown : OffRow w lo e v n xs) (hone : ∀ u ∈ xs, u.oneCell' = true)
    (a : Addr) (c : Nat) (s : Value) (ha : w.cell? a = some s) (h1 : s.oneCell' = true) (hn : n ≤ 1000000) (hbytes : bytes ≤ 1000) (hlo : lo ≤ w.heap.size) :
    ∃ v' w', (Builtin.append_ #[t, t] ty #[v, .slice (some a) 1 c]).run P w = .ok v' w' ∧ OffRow w' lo e v' (n + 1) (xs ++ [s]) ∧ w.grownBy w' v.ownBlock ∧ (v'.ownBlock = v.ownBlock ∨ v'.ownBlock = some w.heap.size) := by
  have hnews : ∀ j u, [s][j]? = some u → w.cell? (a.add j) = some u := by
    intro j u hu
    rcases j with _ | j
    · simp at hu; subst hu; simpa [Addr.add] using ha
    · simp at hu
  have hb1 : (n + 1) * bytes ≤ 140737488355328 := Nat.le_trans (Nat.mul_le_mul (show n + 1 ≤ 1000001 by omega) hbytes) (by decide)
  rcases hown.2 with ⟨rfl, rfl⟩ | ⟨g, off, cap, cur, rfl, hlo', hg, hnc, hcap, hsz, hx⟩
  · have hxs : xs = [] := List.eq_nil_of_length_eq_zero hown.1
    subst hxs
    have hrun := run_append_nil (P := P) w t ty e i z ht hi hz a 1 c [s] (by simp [hsize]) hnews (by omega) (by omega) (by rw [hby]; omega)
    refine ⟨_, _, hrun, ⟨rfl, .inr ⟨w.heap.size, 0, _, _, rfl, hlo, heap_alloc_new w.drew _, grownCap_ge w 1 0 e, grownCap_le_maxLen w 1 0 e (by unfold maxLen; omega), ?_, fun j hj => ?_⟩⟩, ⟨rfl, rfl, rfl, by simp, fun k hk _ => heap_alloc_old w.drew _ hk⟩, .inr rfl⟩
    · have := grownCap_ge w 1 0 e
      simp [Builtin.zeroCells, hzs]
      omega
    · have : j = 0 := by omega
      subst this
      rw [Array.getElem?_append_left (by simp)]
      rfl
  · by_cases hroom : n + 1 ≤ cap
    · have hst := run_storeCells_at (P := P) g (off + n) e [s] 0 cur w hg (by simp; omega) (by simpa using h1)
      have hf := run_firstCells_some (P := P) w i.size 1 a 1 c [s] (by simp [hsize]) hnews
      simp only [Nat.add_zero] at hst
      rw [hsize] at hf
      have hrun : (Builtin.append_ #[t, t] ty #[.slice (some ⟨g, off, none⟩) n cap, .slice (some a) 1 c]).run P w = .ok (.slice (some ⟨g, off, none⟩) (n + 1) cap) (w.setRow g (cur.toList.take (off + n) ++ [s] ++ cur.toList.drop (off + n + [s].length)).toArray) := by
        simp [Builtin.append_, run_underlying ht, sizeOf, typeInfo, hi, Builtin.lenOf, hroom, hf, Addr.add_lit, hsize]
        rw [show (Sem.run P (storeCells { block := g, off := off + n } [s]) w) = _ from hst]
        simp
      refine ⟨_, _, hrun, ⟨by simp [hown.1], .inr ⟨g, off, cap, _, rfl, hlo', setRow_heap w g cur _ e (0, 0) hg, hroom, hcap, ?_, fun j hj => ?_⟩⟩, ⟨rfl, rfl, rfl, by simp, fun k hk hne => setRow_other w g k _ (fun e => hne (by rw [e]; rfl))⟩, .inl rfl⟩
      · simp; omega
      · have hlt : (cur.toList.take (off + n)).length = off + n := by rw [List.length_take]; simp; omega
        by_cases hjn : j < n
        · rw [List.getElem?_append_left (by rw [hown.1]; exact hjn), hx j hjn]
          simp only [List.append_assoc, List.getElem?_toArray]
          rw [List.getElem?_append_left (by omega), List.getElem?_take, if_pos (by omega), Array.getElem?_toList]
        · have hje : j = n := by omega
          subst hje
          rw [List.getElem?_append_right (by rw [hown.1]; exact Nat.le_refl _), hown.1]
          simp only [List.append_assoc, List.getElem?_toArray]
          rw [List.getElem?_append_right (by omega), hlt]
          simp
    · have hxc : ∀ j u, xs[j]? = some u → w.cell? ((⟨g, off, none⟩ : Addr).add j) = some u := fun j u hu => by
        have hj : j < n := by rw [← hown.1]; exact (List.getElem?_eq_some_iff.1 hu).1
        rw [Addr.add_lit, cell_of_row w g (off + j) cur e (0, 0) hg, ← hx j hj, hu]
      have hnc' : cap = n := by omega
      subst hnc'
      have hrun := run_append_grow (P := P) w t ty e i z ht hi hz ⟨g, off, none⟩ cap cap xs (by rw [hown.1, hsize, Nat.mul_one]) hxc a 1 c [s] (by simp [hsize]) hnews (by omega) (by omega) (by rw [hby]; exact growslice_fits (by omega) hb1)
      refine ⟨_, _, hrun, ⟨by simp [hown.1], .inr ⟨w.heap.size, 0, _, _, rfl, hlo, heap_alloc_new w.drew _, grownCap_ge w (cap + 1) cap e, grownCap_le_maxLen w (cap + 1) cap e (by unfold maxLen; omega), ?_, fun j hj => ?_⟩⟩, ⟨rfl, rfl, rfl, by simp, fun k hk _ => heap_alloc_old w.drew _ hk⟩, .inr rfl⟩
      · have := grownCap_ge w (cap + 1) cap e
        simp [Builtin.zeroCells, hzs, hown.1]
        omega
      · rw [Nat.zero_add]
        have hl : (xs ++ [s]).length = cap + 1 := by simp [hown.1]
        rw [show xs.toArray ++ [s].toArray = (xs ++ [s]).toArray by simp, Array.getElem?_append_left (by simp [hown.1]; omega)]
        simp
theorem step_append_off {ops : Array Oper} {o : Oper} {a : Go.Act} {K : Go.Act → World → Prop} {Q : Exit → Go.Act → World → Prop} {E : Prop} (hgd : o.guard = none) (s x : Operand) (t : TypeId)
    (ho : o.op = .call { callee := .builtin .append, args := #[s, x], argTypes := #[t, t] })
    (lo : Nat) (e : TypeId) (i : TypeInfo) (z : Value) (bytes : Nat) (ht : P.underlying t = some (.slice e)) (hi : P.info? e = some i) (hz : i.zero = some z)
    (hsize : i.size = 1) (hby : i.bytes = bytes) (hzs : z.cells.size = 1)
    (v : Value) (n : Nat) (xs : List Value) (hs : a.eval s = v) (hown : OffRow w lo e v n xs) (hone : ∀ u ∈ xs, u.oneCell' = true)
    (ad : Addr) (c : Nat) (sv : Value) (hx : a.eval x = .slice (some ad) 1 c) (ha : w.cell? ad = some sv) (h1 : sv.oneCell' = true) (hn : n ≤ 1000000) (hbytes : bytes ≤ 1000) (hlo : lo ≤ w.heap.size)
    (h : ∀ v' w', OffRow w' lo e v' (n + 1) (xs ++ [sv]) → w.grownBy w' v.ownBlock → (v'.ownBlock = v.ownBlock ∨ v'.ownBlock = some w.heap.size) → K (a.put o.dst v') w') :
    if Region.wanted o (yielded ops a.tmps) = true then Oper.wp P o a w K Q else E := by
  have hw : Region.wanted o (yielded ops a.tmps) = true := by simp [Region.wanted, hgd]
  rw [if_pos hw]
  obtain ⟨v', w', hrun, h2, h3, h4⟩ := run_append_off (P := P) w lo t o.type e i z bytes ht hi hz hsize hby hzs v n xs hown hone ad c sv ha h1 hn hbytes hlo
  unfold Oper.wp execOp
  simp only [ho, resolve, invoke, builtin, Sem.run_bind, Sem.run_pure, Result.andThen_ok, List.map_toArray, List.map_cons, List.map_nil, hs, hx, hrun]
  exact h v' w' h2 h3 h4
end

end Go.Proofs.Ytfeonaocmnpkcaa

/-
  A normal form in a box, of the program: what is kept, and flipAll.
-/
namespace Go.Proofs.Ytfeonaocmnpkcaa
set_option linter.unusedVariables false
set_option linter.unusedSimpArgs false
open Go.RowKit

/-- A factor: its block, its room, and what it is. -/
structure Fh where
  g : Nat
  c : Nat
  p : Pm
  f : Nat → Value
def Fh.hd (n : Nat) (h : Fh) : Value := .slice (some ⟨h.g, 0, none⟩) n h.c
/-- The factors, each in a block of its own. -/
structure Fac (n lo gb : Nat) (w : World) (v : Value) (H : List Fh) : Prop where
  off : OffRow w lo 22 v H.length (H.map (Fh.hd n))
  row : ∀ h ∈ H, RowP n w h.g h.c h.p h.f
  on : ∀ h ∈ H, h.p.On n
  lo : ∀ h ∈ H, lo ≤ h.g
  ob : ∀ h ∈ H, some h.g ≠ v.ownBlock ∧ h.g ≠ gb
  nd : (H.map Fh.g).Nodup
  vb : v.ownBlock ≠ some gb
/-- The box. -/
def BoxN (n gb : Nat) (w : World) (pw : Int) (v : Value) : Prop := ∃ F, w.rowIs gb 86 3 F ∧ F 0 = .int .i64 (n : Int) ∧ F 1 = .int .i64 pw ∧ F 2 = v
theorem BoxN.cells {n gb : Nat} {w : World} {pw : Int} {v : Value} (h : BoxN n gb w pw v) : w.cell? ⟨gb, 0, none⟩ = some (.int .i64 (n : Int)) ∧ w.cell? ⟨gb, 1, none⟩ = some (.int .i64 pw) ∧ w.cell? ⟨gb, 2, none⟩ = some v := by
  obtain ⟨F, hr, h0, h1, h2⟩ := h
  exact ⟨by rw [hr.cell (by omega), h0], by rw [hr.cell (by omega), h1], by rw [hr.cell (by omega), h2]⟩
theorem BoxN.frozen {n gb : Nat} {w : World} {pw : Int} {v : Value} (h : BoxN n gb w pw v) (i : Nat) : w.frozen? ⟨gb, i, none⟩ = false := by
  obtain ⟨F, hr, _⟩ := h
  exact hr.frozen i
theorem BoxN.lt {n gb : Nat} {w : World} {pw : Int} {v : Value} (h : BoxN n gb w pw v) : gb < w.heap.size := by
  obtain ⟨F, hr, _⟩ := h
  exact hr.lt
theorem BoxN.block {n gb : Nat} {w w' : World} {pw : Int} {v : Value} (h : BoxN n gb w pw v) (hb : w'.heap[gb]? = w.heap[gb]?) : BoxN n gb w' pw v := by
  obtain ⟨F, hr, h1⟩ := h
  exact ⟨F, hr.of_block hb, h1⟩
theorem BoxN.pw {n gb : Nat} {w : World} {pw : Int} {v : Value} (h : BoxN n gb w pw v) (q : Int) : BoxN n gb (w.setCell ⟨gb, 1, none⟩ (.int .i64 q)) q v := by
  obtain ⟨F, hr, h0, h1, h2⟩ := h
  exact ⟨_, hr.set 1 _, h0, rfl, h2⟩
theorem BoxN.fac {n gb : Nat} {w : World} {pw : Int} {v : Value} (h : BoxN n gb w pw v) (u : Value) : BoxN n gb (w.setCell ⟨gb, 2, none⟩ u) pw u := by
  obtain ⟨F, hr, h0, h1, h2⟩ := h
  exact ⟨_, hr.set 2 _, h0, h1, rfl⟩
theorem BoxN.far {n gb : Nat} {w : World} {pw : Int} {v : Value} (h : BoxN n gb w pw v) {p : Addr} (hp : p.block ≠ gb) (u : Value) : BoxN n gb (w.setCell p u) pw v := by
  obtain ⟨F, hr, h1⟩ := h
  exact ⟨F, hr.setOther (fun e => hp e.symm) _, h1⟩

theorem Fac.nil (n lo gb : Nat) (w : World) : Fac n lo gb w (.slice none 0 0) [] :=
  ⟨OffRow.nil _ _ _, by simp, by simp, by simp, by simp, by simp, by simp [Value.ownBlock]⟩
/-- What lies in the blocks of the factors and of their headers stands. -/
theorem Fac.block {n lo gb : Nat} {w w' : World} {v : Value} {H : List Fh} (h : Fac n lo gb w v H) (hb : ∀ k, k < w.heap.size → k ≠ gb → w'.heap[k]? = w.heap[k]?) : Fac n lo gb w' v H :=
  ⟨h.off.block fun g hg hl => hb g hl (fun e => h.vb (by rw [hg, e])), fun x hx => (h.row x hx).block (hb _ (h.row x hx).lt (h.ob x hx).2), h.on, h.lo, h.ob, h.nd, h.vb⟩
theorem Fac.block2 {n lo gb : Nat} {w w' : World} {v : Value} {H : List Fh} (h : Fac n lo gb w v H) (hb : ∀ k, lo ≤ k → k < w.heap.size → k ≠ gb → w'.heap[k]? = w.heap[k]?) : Fac n lo gb w' v H :=
  ⟨h.off.block fun g hg hl => hb g (h.off.lt g hg).1 hl (fun e => h.vb (by rw [hg, e])), fun x hx => (h.row x hx).block (hb _ (h.lo x hx) (h.row x hx).lt (h.ob x hx).2), h.on, h.lo, h.ob, h.nd, h.vb⟩
theorem Fac.below {n lo gb : Nat} {w w' : World} {v : Value} {H : List Fh} (h : Fac n lo gb w v H) (hb : Below w.heap.size w w') : Fac n lo gb w' v H := h.block fun k hk _ => hb.block k hk
theorem Fac.box {n lo gb : Nat} {w : World} {v : Value} {H : List Fh} (h : Fac n lo gb w v H) {p : Addr} (hp : p.block = gb) (u : Value) : Fac n lo gb (w.setCell p u) v H :=
  h.block fun k _ hk => Go.Deep.blk_setCell_other _ _ _ _ (by rw [hp]; exact hk)
theorem Fac.get {n lo gb : Nat} {w : World} {v : Value} {H : List Fh} (h : Fac n lo gb w v H) {k : Nat} (hk : k < H.length) :
    ∃ g off cap x, v = .slice (some ⟨g, off, none⟩) H.length cap ∧ H[k]? = some x ∧ x ∈ H ∧ w.cell? ⟨g, off + k, none⟩ = some (.slice (some ⟨x.g, 0, none⟩) n x.c) ∧ (∀ i, w.frozen? ⟨g, i, none⟩ = false) ∧ lo ≤ g ∧ g ≠ gb ∧ g < w.heap.size ∧ x.g ≠ g := by
  obtain ⟨g, off, cap, rfl, h1, h2, h3, h4, h5, h6⟩ := h.off.base (by omega)
  have hm : H[k] ∈ H := List.getElem_mem hk
  refine ⟨g, off, cap, H[k], rfl, List.getElem?_eq_getElem hk, hm, h5 k _ (by rw [List.getElem?_map, List.getElem?_eq_getElem hk]; rfl), h6, h1, fun e => h.vb (by rw [← e]; rfl), h2, fun e => (h.ob _ hm).1 (by rw [e]; rfl)⟩
theorem nodup_at {H : List Fh} (hn : (H.map Fh.g).Nodup) {i j : Nat} {x y : Fh} (hx : H[i]? = some x) (hy : H[j]? = some y) (hij : i ≠ j) : x.g ≠ y.g := by
  intro e
  have hi := (List.getElem?_eq_some_iff.1 hx).1
  have hj := (List.getElem?_eq_some_iff.1 hy).1
  have h1 : (H.map Fh.g)[i]? = (H.map Fh.g)[j]? := by rw [List.getElem?_map, List.getElem?_map, hx, hy]; simp [e]
  exact hij ((List.getElem?_inj (by simpa using hi) hn).1 h1)
theorem nodup_set {H : List Fh} {k : Nat} {y : Fh} (hn : (H.map Fh.g).Nodup) (hy : ∀ x ∈ H, x.g ≠ y.g) : ((H.set k y).map Fh.g).Nodup := by
  refine List.pairwise_iff_getElem.2 fun i j hi hj hij => ?_
  rw [List.length_map, List.length_set] at hi hj
  have h0 := nodup_at hn (List.getElem?_eq_getElem hi) (List.getElem?_eq_getElem hj) (by omega)
  have h1 := hy _ (List.getElem_mem hi)
  have h2 := hy _ (List.getElem_mem hj)
  simp only [List.getElem_map, List.getElem_set]
  by_cases a : k = i
  · rw [if_pos a, if_neg (by omega)]
    exact fun e => h2 e.symm
  · rw [if_neg a]
    by_cases b : k = j
    · rw [if_pos b]
      exact h1
    · rw [if_neg b]
      exact h0
/-- A factor replaced by a fresh one. -/
theorem Fac.set {n lo gb g off cap : Nat} {w : World} {H : List Fh} {k : Nat} {y : Fh} (h : Fac n lo gb w (.slice (some ⟨g, off, none⟩) H.length cap) H) (hk : k < H.length) (hr : RowP n w y.g y.c y.p y.f) (hon : y.p.On n)
    (hlo : lo ≤ y.g) (hne : ∀ x ∈ H, x.g ≠ y.g) (hg : y.g ≠ g) (hgb : y.g ≠ gb) : Fac n lo gb (w.setCell ⟨g, off + k, none⟩ (y.hd n)) (.slice (some ⟨g, off, none⟩) H.length cap) (H.set k y) := by
  refine ⟨?_, fun x hx => ?_, fun x hx => ?_, fun x hx => ?_, fun x hx => ?_, nodup_set h.nd hne, h.vb⟩
  · have := h.off.set (s := y.hd n) hk
    rw [List.length_set, List.map_set]
    exact this
  · rcases List.mem_or_eq_of_mem_set hx with h1 | rfl
    · exact (h.row x h1).block (Go.Deep.blk_setCell_other _ _ _ _ (fun e => (h.ob x h1).1 (congrArg some e)))
    · exact hr.block (Go.Deep.blk_setCell_other _ _ _ _ hg)
  · rcases List.mem_or_eq_of_mem_set hx with h1 | rfl
    · exact h.on x h1
    · exact hon
  · rcases List.mem_or_eq_of_mem_set hx with h1 | rfl
    · exact h.lo x h1
    · exact hlo
  · rcases List.mem_or_eq_of_mem_set hx with h1 | rfl
    · exact h.ob x h1
    · exact ⟨fun e => hg (by injection e), hgb⟩
/-- The first factor taken off. -/
theorem Fac.tail {n lo gb g off cap : Nat} {w : World} {x : Fh} {T : List Fh} (h : Fac n lo gb w (.slice (some ⟨g, off, none⟩) (x :: T).length cap) (x :: T)) :
    Fac n lo gb w (if cap = 1 then .slice (some ⟨g, off, none⟩) T.length (cap - 1) else .slice (some ⟨g, off + 1, none⟩) T.length (cap - 1)) T := by
  have ho : (if cap = 1 then Value.slice (some ⟨g, off, none⟩) T.length (cap - 1) else .slice (some ⟨g, off + 1, none⟩) T.length (cap - 1)).ownBlock = some g := by split <;> rfl
  have hb := h.ob
  have hv := h.vb
  refine ⟨h.off.tail, fun y hy => h.row y (List.mem_cons_of_mem _ hy), fun y hy => h.on y (List.mem_cons_of_mem _ hy), fun y hy => h.lo y (List.mem_cons_of_mem _ hy), fun y hy => ?_, (List.nodup_cons.1 h.nd).2, ?_⟩
  · rw [ho]
    exact hb y (List.mem_cons_of_mem _ hy)
  · rw [ho]
    exact hv
/-- The last factor taken off. -/
theorem Fac.init {n lo gb g off cap : Nat} {w : World} {x : Fh} {T : List Fh} (h : Fac n lo gb w (.slice (some ⟨g, off, none⟩) (T ++ [x]).length cap) (T ++ [x])) : Fac n lo gb w (.slice (some ⟨g, off, none⟩) T.length cap) T := by
  have ho := h.off
  rw [List.length_append, List.map_append] at ho
  have ho := OffRow.init ho
  rw [List.take_append_of_le_length (by simp), List.take_of_length_le (by simp)] at ho
  have hn := h.nd
  rw [List.map_append] at hn
  exact ⟨ho, fun y hy => h.row y (List.mem_append_left _ hy), fun y hy => h.on y (List.mem_append_left _ hy), fun y hy => h.lo y (List.mem_append_left _ hy), fun y hy => h.ob y (List.mem_append_left _ hy), (List.nodup_append.1 hn).1, h.vb⟩
theorem Fac.drew {n lo gb : Nat} {w : World} {v : Value} {H : List Fh} (h : Fac n lo gb w v H) : Fac n lo gb w.drew v H := h.block fun _ _ _ => rfl
theorem BoxN.drew {n gb : Nat} {w : World} {pw : Int} {v : Value} (h : BoxN n gb w pw v) : BoxN n gb w.drew pw v := h.block rfl

theorem OffRow.le {w : World} {lo : Nat} {E : TypeId} {g off n cap : Nat} {xs : List Value} (h : OffRow w lo E (.slice (some ⟨g, off, none⟩) n cap) n xs) : n ≤ cap ∧ cap ≤ maxLen := by
  obtain ⟨A, c, e, h1, h2⟩ := h.shape
  injection e with _ _ e
  subst e
  exact ⟨h1, h2⟩

theorem flip_next {n m k : Nat} {H : List Fh} {q : Pm} (hm : H.length = m) (hk : k < m) (hq : some q = (flipL n ((H.map Fh.p).take k) ++ (H.map Fh.p).drop k)[k]?) :
    (flipL n ((H.map Fh.p).take k) ++ (H.map Fh.p).drop k).set k (Pm.flip n q) = flipL n ((H.map Fh.p).take (k + 1)) ++ (H.map Fh.p).drop (k + 1) := by
  generalize hL : H.map Fh.p = L at *
  have hl : L.length = m := by rw [← hL, List.length_map, hm]
  have hlen : (flipL n (L.take k)).length = k := by unfold flipL; rw [List.length_map, List.length_take]; omega
  rw [List.getElem?_append_right (by omega), hlen, Nat.sub_self, List.getElem?_drop, Nat.add_zero, List.getElem?_eq_getElem (by omega)] at hq
  injection hq with hq
  rw [List.set_append_right _ _ (by omega), hlen, Nat.sub_self, List.drop_eq_getElem_cons (show k < L.length by omega), List.set_cons_zero, List.take_succ_eq_append_getElem (show k < L.length by omega), flipL_append, ← hq, List.append_assoc]
  rfl
set_option maxHeartbeats 4000000 in
set_option maxRecDepth 100000 in
theorem flipAll_any (n : Nat) (hn0 : 0 < n) (hn : n ≤ 12) (lo gb : Nat) (pw : Int) (v : Value) (H : List Fh) (w : World) (hbx : BoxN n gb w pw v) (hfc : Fac n lo gb w v H) (hlo : lo ≤ w.heap.size) :
    Calls Try.prog 91 #[.pointer (some ⟨gb, 0, none⟩)] w fun e w' => e = .returned (.tuple #[]) ∧ ∃ H', BoxN n gb w' pw v ∧ Fac n lo gb w' v H' ∧ H'.map Fh.p = flipL n (H.map Fh.p) ∧ Below lo w w' ∧ Tch (fun b => v.ownBlock = some b) w w' := by
  have HBX := Lib.hid hbx
  have HFC := Lib.hid hfc
  obtain ⟨A, c, rfl, hmc, hcm⟩ := hfc.off.shape
  generalize hm : H.length = m at *
  have HM := Lib.hid hm
  obtain ⟨-, -, b2⟩ := hbx.cells
  clear hbx hfc hm
  unfold maxLen at hcm
  go_enter Try.func91, Try.ntmps91
  go_wp2
  go_loopg [9] m (fun gk i wr => ∃ (k : Nat) (H' : List Fh), gk = m - k ∧ k ≤ m ∧ i = .int .i64 k ∧ Hid (BoxN n gb wr pw (.slice A m c)) ∧ Hid (Fac n lo gb wr (.slice A m c) H') ∧ Hid (H'.length = m) ∧ Hid (H'.map Fh.p = flipL n ((H.map Fh.p).take k) ++ (H.map Fh.p).drop k) ∧ Hid (Tch (fun b => (Value.slice A m c).ownBlock = some b) w wr) ∧ Below lo w wr)
  case atStart => exact ⟨0, H, rfl, Nat.zero_le _, rfl, HBX.out, HFC.out, HM.out, rfl, Tch.refl _ _, Below.refl _ _⟩
  case round =>
    obtain ⟨wo, rfl⟩ : ∃ x : World, x = wr := ⟨_, rfl⟩
    obtain ⟨k, H', rfl, hk, rfl, HB1, HF1, HL1, HP1, HTC, hb⟩ := hrel
    have HB := Lib.hid hb
    have hsz := hb.size
    clear hb
    by_cases hlt : k < m
    · obtain ⟨g, off, cap, x, e, hx, hxm, c0, f0, hg1, hg2, hg3, hxg⟩ := HF1.out.get (k := k) (by rw [HL1.out]; exact hlt)
      injection e with e1 e3 e2
      subst e1 e2
      clear e3
      obtain ⟨-, -, d2⟩ := HB1.out.cells
      have HX := Lib.hid hx
      have HXM := Lib.hid hxm
      have HRX := Lib.hid (HF1.out.row x hxm)
      have HOX := Lib.hid (HF1.out.on x hxm)
      have hle := HRX.out.le
      have hcx := HRX.out.cap
      unfold maxLen at hcx
      have HXL := Lib.hid HRX.out.lt
      clear hx hxm
      go_wp2
      go_region_with ((go_at_call 102; refine (flip_any n hn x.p HOX.out _ _ (((HRX.out.block (w' := wo.drew) rfl).rd))).mono ?_; rintro e w1 ⟨v1, rfl, ho1, hb1⟩; obtain ⟨g1, cap1, F1, rfl, hlo1, hhi1, hrow1, hnc1, hcap1, hval1⟩ := own_lst ho1 hn0; simp only [lst_len] at *; have hb2 : Below wo.heap.size wo w1 := (Below.refl wo.heap.size wo).drew.trans hb1; have q2 := (hb2.cell (p := ⟨gb, 2, none⟩) HB1.out.lt).trans d2; have q0 := (hb2.cell (p := ⟨g, off + k, none⟩) hg3).trans c0; have qf : ∀ i, w1.frozen? ⟨g, i, none⟩ = false := fun i => ((bcell hb2).2 _ _ hg3).trans (f0 i); have HR1 := Lib.hid (show RowP n w1 g1 cap1 (Pm.flip n x.p) F1 from ⟨hrow1, hnc1, hcap1, hval1⟩); have HB2 := Lib.hid hb2; have HG1 := Lib.hid (show wo.heap.size ≤ g1 from hlo1); clear hb1 hb2 ho1 hrow1 hval1))
      all_goals
        go_wp2
        go_roundg (m - (k + 1))
        case measure => omega
        case rel =>
          have hk' : k < H'.length := by rw [HL1.out]; exact hlt
          have hfs := Fac.set (y := ⟨g1, cap1, Pm.flip n x.p, F1⟩) (h := by rw [HL1.out]; exact HF1.out.below HB2.out) hk' HR1.out HOX.out.flip (Nat.le_trans (Nat.le_trans hlo hsz) HG1.out) (fun z hz e => absurd (HF1.out.row z hz).lt (by have := HG1.out; simp only at e; omega)) (by have := HG1.out; simp only; omega) (by have := HG1.out; have := HB1.out.lt; simp only; omega)
          rw [HL1.out] at hfs
          refine ⟨k + 1, H'.set k ⟨g1, cap1, Pm.flip n x.p, F1⟩, rfl, by omega, by go_num, (HB1.out.block (HB2.out.block _ HB1.out.lt)).far (by simpa using hg2) _, hfs, (List.length_set).trans HL1.out, ?_, (HTC.out.trans (Tch.of_below HB2.out)).setCell (p := ⟨g, off + k, none⟩) rfl _, (HB.out.trans (HB2.out.mono (Nat.le_trans hlo hsz))).setCell (p := ⟨g, off + k, none⟩) hg1 _⟩
          show (H'.set k ⟨g1, cap1, Pm.flip n x.p, F1⟩).map Fh.p = flipL n ((H.map Fh.p).take (k + 1)) ++ (H.map Fh.p).drop (k + 1)
          rw [List.map_set, HP1.out]
          exact flip_next HM.out hlt (by have h := HP1.out; have h2 := congrArg (fun l : List Pm => l[k]?) h; simp only [List.getElem?_map, HX.out] at h2; exact h2)
    · obtain rfl : k = m := by omega
      go_wp2
      go_end0
      refine ⟨rfl, H', HB1.out, HF1.out, ?_, HB.out, HTC.out⟩
      rw [HP1.out, List.take_of_length_le (by simp [HM.out]), List.drop_eq_nil_of_le (by simp [HM.out]), List.append_nil]

end Go.Proofs.Ytfeonaocmnpkcaa

/-
  Half twists taken out at the beginning, identities at the end, of the program: tidy.
-/
namespace Go.Proofs.Ytfeonaocmnpkcaa
set_option linter.unusedVariables false
set_option linter.unusedSimpArgs false
open Go.RowKit

def hdIs (n : Nat) (q : Pm) : List Fh → Bool
  | [] => false
  | x :: _ => decide (lst n x.p = lst n q)
def laIs (n : Nat) (q : Pm) (H : List Fh) : Bool := hdIs n q H.reverse
theorem ones_uniq {A B : List Pm} {x : Pm} : ∀ {b c : Nat}, A ++ List.replicate b x = B ++ List.replicate c x → A.getLast? ≠ some x → B.getLast? ≠ some x → A = B
  | 0, 0, e, _, _ => by simpa using e
  | b + 1, 0, e, _, hB => by
    exfalso
    apply hB
    rw [List.replicate_zero, List.append_nil] at e
    rw [← e, List.replicate_succ', ← List.append_assoc, List.getLast?_concat]
  | 0, c + 1, e, hA, _ => by
    exfalso
    apply hA
    rw [List.replicate_zero, List.append_nil] at e
    rw [e, List.replicate_succ', ← List.append_assoc, List.getLast?_concat]
  | b + 1, c + 1, e, hA, hB => by
    rw [List.replicate_succ', List.replicate_succ', ← List.append_assoc, ← List.append_assoc] at e
    exact ones_uniq (List.append_inj_left' e rfl) hA hB
/-- What is left when no half twist is at the beginning and no identity at the end. -/
theorem tidy_law {n : Nat} (hn : 2 ≤ n) {L L2 : List Pm} {j b : Nat} (hL : AllOn n L) (hs : Sett n L) (e : L = nfm n j L2 b) (h1 : (L2 ++ List.replicate b Pm.one).head? ≠ some (Pm.half n)) (h2 : L2.getLast? ≠ some Pm.one) : Good n L2 := by
  subst e
  have hL1 : AllOn n (L2 ++ List.replicate b Pm.one) := hL.right
  have hs1 : Sett n (L2 ++ List.replicate b Pm.one) := sett_drop _ hs
  obtain ⟨a, F, c, e, hg⟩ := shape_ex _ hL1 hs1
  cases a with
  | zero =>
    unfold nfm at e
    rw [List.replicate_zero, List.nil_append] at e
    have h3 : F.getLast? ≠ some Pm.one := fun h => (hg _ (List.mem_of_getLast? h)).1 rfl
    rw [ones_uniq e h2 h3]
    exact hg
  | succ a =>
    exfalso
    apply h1
    rw [e]
    rfl

theorem hdIs_not {n : Nat} {q : Pm} {H : List Fh} (h : hdIs n q H = false) : (H.map Fh.p).head? ≠ some q := by
  cases H with
  | nil => simp
  | cons x T =>
    intro e
    injection e with e
    rw [show hdIs n q (x :: T) = decide (lst n x.p = lst n q) from rfl, show x.p = q from e] at h
    simp at h
theorem laIs_not {n : Nat} {q : Pm} {H : List Fh} (h : laIs n q H = false) : (H.map Fh.p).getLast? ≠ some q := by
  have h1 := hdIs_not h
  rw [List.map_reverse, List.head?_reverse] at h1
  exact h1
set_option maxHeartbeats 4000000 in
set_option maxRecDepth 100000 in
theorem tidy_any (n : Nat) (hn2 : 2 ≤ n) (hn : n ≤ 12) (lo gb : Nat) (pw : Int) (v : Value) (H : List Fh) (w : World) (hbx : BoxN n gb w pw v) (hfc : Fac n lo gb w v H) (hlo : lo ≤ gb)
    (hst : Sett n (H.map Fh.p)) (hp0 : -1000000 ≤ pw) (hp1 : pw ≤ 1000000) (hlen : H.length ≤ 1000000) :
    Calls Try.prog 106 #[.pointer (some ⟨gb, 0, none⟩)] w fun e w' => e = .returned (.tuple #[]) ∧ ∃ (a b : Nat) (v' : Value) (H' : List Fh), BoxN n gb w' (pw + a) v' ∧ Fac n lo gb w' v' H' ∧ H.map Fh.p = nfm n a (H'.map Fh.p) b ∧ Good n (H'.map Fh.p) ∧ Below lo w w' := by
  have HBX := Lib.hid hbx
  have HFC := Lib.hid hfc
  have HST := Lib.hid hst
  have HLE := Lib.hid hlen
  have hn1 : (1 : Int) < (n : Int) := by omega
  have hgb := hbx.lt
  obtain ⟨b0, -, -⟩ := hbx.cells
  clear hbx hfc hst hlen
  go_enter Try.func106, Try.ntmps106
  go_upto_region 0 with fail
  go_cut [2, 3] from 4 (fun s2 s3 wc => ∃ (g1 c1 g2 c2 : Nat) (F1 F2 : Nat → Value), s2 = .slice (some ⟨g1, 0, none⟩) n c1 ∧ s3 = .slice (some ⟨g2, 0, none⟩) n c2 ∧ w.heap.size ≤ g1 ∧ w.heap.size ≤ g2 ∧ Hid (RowP n wc g1 c1 (Pm.half n) F1) ∧ Hid (RowP n wc g2 c2 Pm.one F2) ∧ Below w.heap.size w wc)
  case first =>
    go_region_with ((first | (go_at_call 93; refine (halfTwist_any n (by omega) hn _).mono ?_; rintro e wa ⟨va, rfl, hoa, hba⟩; obtain ⟨ga, ca, Fa, rfl, hloa, hhia, hrowa, hnca, hcapa, hvala⟩ := own_lst hoa (by omega); simp only [lst_len] at *; have HA := Lib.hid (show Below w.heap.size w wa from by first | exact HB.out.trans (hba.mono HB.out.size) | exact (Below.refl w.heap.size w).drew.trans hba); have HBA := Lib.hid hba; have qa : wa.cell? ⟨gb, 0, none⟩ = some (.int .i64 (n : Int)) := (HA.out.cell (p := ⟨gb, 0, none⟩) hgb).trans b0; have HRA := Lib.hid (show RowP n wa ga ca (Pm.half n) Fa from ⟨hrowa, hnca, hcapa, hvala⟩); clear hba hoa hrowa hvala) | (go_at_call 101; refine (identity_any n hn _).mono ?_; rintro e wb ⟨vb, rfl, hob, hbb⟩; obtain ⟨gB, cb, Fb, rfl, hlob, hhib, hrowb, hncb, hcapb, hvalb⟩ := own_lst hob (by omega); simp only [lst_len] at *; have HB := Lib.hid (show Below w.heap.size w wb from by first | exact HA.out.trans (hbb.mono HA.out.size) | exact (Below.refl w.heap.size w).drew.trans hbb); have HBB := Lib.hid hbb; have qb : wb.cell? ⟨gb, 0, none⟩ = some (.int .i64 (n : Int)) := (HB.out.cell (p := ⟨gb, 0, none⟩) hgb).trans b0; have HRB := Lib.hid (show RowP n wb gB cb Pm.one Fb from ⟨hrowb, hncb, hcapb, hvalb⟩); clear hbb hob hrowb hvalb)))
    all_goals
      go_wp2
      go_meet
      case rel =>
        first
        | exact ⟨ga, ca, gB, cb, Fa, Fb, rfl, rfl, (by have := HB.out.size; first | exact hloa | omega), (by have := HA.out.size; first | exact hlob | omega), HRA.out.block (HBB.out.block _ HRA.out.lt), HRB.out, HB.out⟩
        | exact ⟨ga, ca, gB, cb, Fa, Fb, rfl, rfl, (by have := HB.out.size; first | exact hloa | omega), (by have := HA.out.size; first | exact hlob | omega), HRA.out, HRB.out.block (HBA.out.block _ HRB.out.lt), HA.out⟩
  case rest =>
    obtain ⟨g1, c1, g2, c2, F1, F2, rfl, rfl, hg1, hg2, HR1, HR2, hbc⟩ := hcut
    obtain ⟨wa, rfl⟩ : ∃ x : World, x = wc := ⟨_, rfl⟩
    have HBC := Lib.hid hbc
    have zc := hbc.size
    have HT0 := Lib.hid (Tch.of_below (S := fun b => b = gb) hbc)
    have HBXa := Lib.hid (HBX.out.block (hbc.block _ hgb))
    have HFCa := Lib.hid (HFC.out.below hbc)
    clear hbc b0
    have hle1 := HR1.out.le
    have hle2 := HR2.out.le
    have hcm1 := HR1.out.cap
    have hcm2 := HR2.out.cap
    unfold maxLen at hcm1 hcm2
    go_wp2
    go_loopg [] H.length (fun gk wr => ∃ (j : Nat) (v1 : Value) (H1 : List Fh), Hid (gk = H1.length) ∧ Hid (BoxN n gb wr (pw + j) v1) ∧ Hid (Fac n lo gb wr v1 H1) ∧ Hid (H.map Fh.p = List.replicate j (Pm.half n) ++ H1.map Fh.p) ∧ Hid (j + H1.length = H.length) ∧ Hid (Tch (fun b => b = gb) wa wr))
    case atStart => exact ⟨0, v, H, rfl, by unfold Hid; rw [show pw + ((0 : Nat) : Int) = pw by omega]; exact HBXa.out, HFCa.out, rfl, Nat.zero_add _, Tch.refl _ _⟩
    case round =>
      obtain ⟨wo, rfl⟩ : ∃ x : World, x = wr := ⟨_, rfl⟩
      obtain ⟨j, v1, H1, HG, HB1, HF1, HL1, HJ, HT1⟩ := hrel
      obtain ⟨gko, rfl⟩ : ∃ x : Nat, x = gk := ⟨_, rfl⟩
      have HRA := Lib.hid (HR1.out.block (HT1.out.block g1 HR1.out.lt (show ¬ g1 = gb by omega)))
      have HRB := Lib.hid (HR2.out.block (HT1.out.block g2 HR2.out.lt (show ¬ g2 = gb by omega)))
      have hjl : j ≤ 1000000 := by have := HJ.out; have := HLE.out; omega
      go_upto_region 1 with fail
      go_cut [36] from 14 to 51 (fun s36 wx => s36 = .bool (hdIs n (Pm.half n) H1) ∧ Hid (Below wo.heap.size wo wx))
      case first =>
        obtain ⟨d0, d1, d2⟩ := HB1.out.cells
        cases H1 with
        | nil =>
          obtain ⟨A1, cc1, rfl, -, -⟩ := HF1.out.off.shape
          simp only [List.length_nil] at *
          go_wp2
          go_meet
          case rel => exact ⟨rfl, Below.refl _ _⟩
        | cons x T =>
          obtain ⟨g, off, cap, y, rfl, hy, hym, c0, f0, hgl, hgg, hgs, hyg⟩ := HF1.out.get (k := 0) (by simp)
          simp at hy
          subst hy
          have HRX := Lib.hid (HF1.out.row x hym)
          obtain ⟨hmc, hcm⟩ := HF1.out.off.le
          unfold maxLen at hcm
          simp only [List.length_cons, Nat.add_zero] at *
          have ht0 : (0 : Int) < (T.length : Int) + 1 := by omega
          go_wp2_with fail
          refine (eqlInts_any _ _ (lst n x.p) (lst n (Pm.half n)) _ _ HRX.out.rd HRA.out.rd (Nat.le_refl _)).mono ?_
          rintro e w1 ⟨rfl, hb1⟩
          have HBW := Lib.hid hb1
          clear hb1
          go_wp2
          go_meet
          case rel => exact ⟨rfl, HBW.out⟩
      case rest =>
        obtain ⟨rfl, HBX1⟩ := hcut
        obtain ⟨wx, rfl⟩ : ∃ x : World, x = wc := ⟨_, rfl⟩
        have HB2 := Lib.hid (HB1.out.block (HBX1.out.block _ HB1.out.lt))
        have HF2 := Lib.hid (HF1.out.below HBX1.out)
        have HT2 := Lib.hid (HT1.out.trans (Tch.of_below HBX1.out))
        cases hc : hdIs n (Pm.half n) H1
        · have HH1 := Lib.hid (hdIs_not hc)
          have HRA2 := Lib.hid (HR1.out.block (HT2.out.block g1 HR1.out.lt (show ¬ g1 = gb by omega)))
          have HRB2 := Lib.hid (HR2.out.block (HT2.out.block g2 HR2.out.lt (show ¬ g2 = gb by omega)))
          clear hc
          go_wp2
          go_loopg [] H1.length (fun gk wr => ∃ (b : Nat) (v2 : Value) (H2 : List Fh), Hid (gk = H2.length) ∧ Hid (BoxN n gb wr (pw + j) v2) ∧ Hid (Fac n lo gb wr v2 H2) ∧ Hid (H1.map Fh.p = H2.map Fh.p ++ List.replicate b Pm.one) ∧ Hid (b + H2.length = H1.length) ∧ Hid (Tch (fun b => b = gb) wa wr))
          case atStart => exact ⟨0, v1, H1, rfl, HB2.out, HF2.out, by simp [Hid], Nat.zero_add _, HT2.out⟩
          case round =>
            obtain ⟨wi, rfl⟩ : ∃ x : World, x = wr := ⟨_, rfl⟩
            obtain ⟨b, v2, H2, HGI, HBI, HFI, HLI, HJI, HTI⟩ := hrel
            obtain ⟨gki, rfl⟩ : ∃ x : Nat, x = gk := ⟨_, rfl⟩
            have HRBI := Lib.hid (HR2.out.block (HTI.out.block g2 HR2.out.lt (show ¬ g2 = gb by omega)))
            have hl2 : H2.length ≤ 1000000 := by have := HJ.out; have := HLE.out; have := HJI.out; omega
            go_upto_region 4 with fail
            go_cut [73] from 52 to 87 (fun s73 wx => s73 = .bool (laIs n Pm.one H2) ∧ Hid (Below wi.heap.size wi wx))
            case first =>
              have HC := Lib.hid HBI.out.cells
              rcases List.eq_nil_or_concat H2 with rfl | ⟨T, x, rfl⟩
              · obtain ⟨A1, cc1, rfl, -, -⟩ := HFI.out.off.shape
                simp only [List.length_nil] at *
                have e2 := fun X => wgrow_cell (x := X) HC.out.2.2
                go_wp2
                refine wp_region_grow (by kernel_rfl) (by kernel_rfl) ?_
                repeat (go_big_quiet_step (fail))
                refine wpQuiet_nil ?_
                intro w1 hb1
                go_wp2
                go_meet
                case rel => exact ⟨rfl, hb1⟩
              · obtain ⟨g, off, cap, y, rfl, hy, hym, c0, f0, hgl, hgg, hgs, hyg⟩ := HFI.out.get (k := T.length) (by simp)
                simp at hy
                subst hy
                have HRX := Lib.hid (HFI.out.row x hym)
                obtain ⟨hmc, hcm⟩ := HFI.out.off.le
                unfold maxLen at hcm
                rw [List.concat_eq_append] at *
                simp only [List.length_append, List.length_cons, List.length_nil, Nat.zero_add] at *
                have e2 := fun X => wgrow_cell (x := X) HC.out.2.2
                have e0 := fun X => wgrow_cell (x := X) c0
                have ht0 : (0 : Int) < (T.length : Int) + 1 := by omega
                have HQ := Lib.hid (fun X => eqlInts_any _ _ (lst n x.p) (lst n Pm.one) (wgrow wi X) _ (HRX.out.block (w' := wgrow wi X) ((below_wgrow wi X).block _ HRX.out.lt)).rd (HRBI.out.block (w' := wgrow wi X) ((below_wgrow wi X).block _ HRBI.out.lt)).rd (Nat.le_refl _))
                have HLA : Hid (laIs n Pm.one (T ++ [x]) = decide (lst n x.p = lst n Pm.one)) := by unfold Hid laIs; rw [List.reverse_append]; rfl
                clear c0 hym
                go_wp2
                refine wp_region_grow (by kernel_rfl) (by kernel_rfl) ?_
                repeat (go_big_quiet_step ((go_at_call 89; exact calls_grow (HQ.out _))))
                refine wpQuiet_nil ?_
                intro w1 hb1
                go_wp2
                go_meet
                case rel => exact ⟨by rw [HLA.out], hb1⟩
            case rest =>
              obtain ⟨rfl, HBY⟩ := hcut
              obtain ⟨wy, rfl⟩ : ∃ x : World, x = wc := ⟨_, rfl⟩
              have HB3 := Lib.hid (HBI.out.block (HBY.out.block _ HBI.out.lt))
              have HF3 := Lib.hid (HFI.out.below HBY.out)
              have HT3 := Lib.hid (HTI.out.trans (Tch.of_below HBY.out))
              cases hc : laIs n Pm.one H2
              · have HC := Lib.hid hc
                clear hc
                go_wp2
                go_end0
                have e : H.map Fh.p = nfm n j (H2.map Fh.p) b := by rw [HL1.out, HLI.out]; rfl
                have hon : AllOn n (H.map Fh.p) := by intro p hp; obtain ⟨y, hy, rfl⟩ := List.mem_map.1 hp; exact HFC.out.on y hy
                exact ⟨rfl, j, b, v2, H2, HB3.out, HF3.out, e, tidy_law hn2 hon HST.out e (by rw [← HLI.out]; exact HH1.out) (laIs_not HC.out), (HBC.out.mono (by omega)).trans (HT3.out.below (fun k hk => by rw [hk]; exact hlo) (by omega))⟩
              · rcases List.eq_nil_or_concat H2 with rfl | ⟨T, x, rfl⟩
                · simp [laIs, hdIs] at hc
                · rw [List.concat_eq_append] at *
                  have HPX := Lib.hid (show x.p = Pm.one from lst_inj (HF3.out.on x (by simp)) (Pm.on_one n) (by unfold laIs at hc; rw [List.reverse_append] at hc; simpa [hdIs] using hc))
                  obtain ⟨g, off, cap, y, rfl, hy, hym, c0, f0, hgl, hgg, hgs, hyg⟩ := HF3.out.get (k := T.length) (by simp)
                  obtain ⟨hmc, hcm⟩ := HF3.out.off.le
                  unfold maxLen at hcm
                  obtain ⟨d0, d1, d2⟩ := HB3.out.cells
                  have e0 := fun i => HB3.out.frozen i
                  have HFT := Lib.hid HF3.out.init
                  clear hc hy hym c0
                  simp only [List.length_append, List.length_cons, List.length_nil, Nat.zero_add] at *
                  go_wp2
                  go_region
                  all_goals
                    go_wp2
                    go_roundg T.length
                    case measure => rw [HGI.out]; omega
                    case rel => exact ⟨b + 1, .slice (some ⟨g, off, none⟩) T.length cap, T, rfl, (HB3.out.fac _).drew, (HFT.out.box rfl _).drew, by unfold Hid; rw [HLI.out, List.map_append, List.replicate_succ, List.append_assoc, List.map_cons, HPX.out]; rfl, by have := HJI.out; unfold Hid; omega, (HT3.out.setCell rfl _).drew⟩
        · cases H1 with
          | nil => simp [hdIs] at hc
          | cons x T =>
            have HPX := Lib.hid (show x.p = Pm.half n from lst_inj (HF2.out.on x (by simp)) (Pm.on_half n) (by simpa [hdIs] using hc))
            obtain ⟨g, off, cap, y, rfl, hy, hym, c0, f0, hgl, hgg, hgs, hyg⟩ := HF2.out.get (k := 0) (by simp)
            clear hc hy hym c0
            obtain ⟨hmc, hcm⟩ := HF2.out.off.le
            unfold maxLen at hcm
            obtain ⟨d0, d1, d2⟩ := HB2.out.cells
            have e0 := fun i => HB2.out.frozen i
            have HFT := Lib.hid HF2.out.tail
            simp only [List.length_cons] at *
            have hc1 : 1 ≤ cap := by omega
            by_cases hcap : cap = 1
            · subst hcap
              obtain rfl : T = [] := List.eq_nil_of_length_eq_zero (by omega)
              simp only [List.length_nil] at *
              go_wp2
              go_roundg 0
              case measure => rw [HG.out]; omega
              case rel => exact ⟨j + 1, .slice (some ⟨g, off, none⟩) 0 0, [], rfl, by unfold Hid; rw [show pw + ((j + 1 : Nat) : Int) = pw + j + 1 by omega]; exact (HB2.out.pw _).fac _, (HFT.out.box rfl _).box rfl _, by unfold Hid; rw [HL1.out, List.replicate_succ', List.append_assoc, List.map_cons, HPX.out]; rfl, by have := HJ.out; unfold Hid; simp only [List.length_nil]; omega, (HT2.out.setCell rfl _).setCell rfl _⟩
            · rw [if_neg hcap] at HFT
              go_wp2
              go_roundg T.length
              case measure => rw [HG.out]; omega
              case rel => exact ⟨j + 1, .slice (some ⟨g, off + 1, none⟩) T.length (cap - 1), T, rfl, by unfold Hid; rw [show pw + ((j + 1 : Nat) : Int) = pw + j + 1 by omega]; exact (HB2.out.pw _).fac _, (HFT.out.box rfl _).box rfl _, by unfold Hid; rw [HL1.out, List.replicate_succ', List.append_assoc, List.map_cons, HPX.out]; rfl, by have := HJ.out; unfold Hid; omega, (HT2.out.setCell rfl _).setCell rfl _⟩

end Go.Proofs.Ytfeonaocmnpkcaa

/-
  A permutation behind a normal form, of the program: times.
-/
namespace Go.Proofs.Ytfeonaocmnpkcaa
set_option linter.unusedVariables false
set_option linter.unusedSimpArgs false
open Go.RowKit

theorem Rch1.rch {n : Nat} {L L' : List Pm} (h : Rch1 n L L') : Rch n L L' := by
  obtain ⟨M, h1, h2⟩ := h
  exact .head h1 h2
theorem Rch1.after {n : Nat} {L L' L'' : List Pm} (h : Rch n L L') (k : Rch1 n L' L'') : Rch1 n L L'' := by
  cases h with
  | refl => exact k
  | head hm hr => exact ⟨_, hm, hr.trans k.rch⟩
theorem Rch1.trans {n : Nat} {L L' L'' : List Pm} (h : Rch1 n L L') (k : Rch n L' L'') : Rch1 n L L'' := by
  obtain ⟨M, h1, h2⟩ := h
  exact ⟨M, h1, h2.trans k⟩
theorem rch_at {n : Nat} {p q p' q' : Pm} (h : Rch n [p, q] [p', q']) : ∀ {L : List Pm} {i : Nat}, L[i]? = some p → L[i + 1]? = some q → Rch n L ((L.set i p').set (i + 1) q')
  | [], i, h1, _ => by simp at h1
  | [a], i, _, h2 => by simp at h2
  | a :: b :: L, 0, h1, h2 => by
    simp at h1 h2
    subst h1 h2
    exact h.appR L
  | a :: b :: L, i + 1, h1, h2 => by
    rw [List.set_cons_succ, List.set_cons_succ]
    exact (rch_at h (L := b :: L) (i := i) (by simpa using h1) (by simpa using h2)).cons a
theorem rch1_at {n : Nat} {p q p' q' : Pm} (h : Rch1 n [p, q] [p', q']) : ∀ {L : List Pm} {i : Nat}, L[i]? = some p → L[i + 1]? = some q → Rch1 n L ((L.set i p').set (i + 1) q')
  | [], i, h1, _ => by simp at h1
  | [a], i, _, h2 => by simp at h2
  | a :: b :: L, 0, h1, h2 => by
    simp at h1 h2
    subst h1 h2
    obtain ⟨M, h3, h4⟩ := h
    exact ⟨M ++ L, h3.appR L, h4.appR L⟩
  | a :: b :: L, i + 1, h1, h2 => by
    rw [List.set_cons_succ, List.set_cons_succ]
    obtain ⟨M, h3, h4⟩ := rch1_at h (L := b :: L) (i := i) (by simpa using h1) (by simpa using h2)
    exact ⟨a :: M, .cons h3, h4.cons a⟩

theorem Fac.lt {n lo gb : Nat} {w : World} {v : Value} {H : List Fh} (h : Fac n lo gb w v H) {g : Nat} (hg : v.ownBlock = some g) : lo ≤ g ∧ g < w.heap.size := h.off.lt g hg
/-- A factor more. -/
theorem Fac.snoc {n lo gb : Nat} {w w' : World} {v v' : Value} {H : List Fh} {y : Fh} {o : Obj} (h : Fac n lo gb w v H) (hgb : gb < w.heap.size) (hr : RowP n w y.g y.c y.p y.f) (hon : y.p.On n) (hlo : lo ≤ y.g)
    (hv : v.ownBlock ≠ some y.g) (hyb : y.g ≠ gb) (hne : ∀ x ∈ H, x.g ≠ y.g) (ho : OffRow w' lo 22 v' (H.length + 1) (H.map (Fh.hd n) ++ [y.hd n])) (hg : (w.alloc o).grownBy w' v.ownBlock)
    (hat : v'.ownBlock = v.ownBlock ∨ v'.ownBlock = some (w.alloc o).heap.size) : Fac n lo gb w' v' (H ++ [y]) := by
  have hsz : (w.alloc o).heap.size = w.heap.size + 1 := by simp
  have hblk : ∀ k, k < w.heap.size → v.ownBlock ≠ some k → w'.heap[k]? = w.heap[k]? := fun k hk hn => (hg.block k (by omega) (fun e => hn e.symm)).trans (heap_alloc_old w o hk)
  have hnv : ∀ k, k < w.heap.size → v.ownBlock ≠ some k → v'.ownBlock ≠ some k := by
    intro k hk hn e
    rcases hat with h1 | h1
    · exact hn (h1 ▸ e)
    · rw [h1, hsz] at e
      injection e with e
      omega
  refine ⟨?_, fun x hx => ?_, fun x hx => ?_, fun x hx => ?_, fun x hx => ?_, ?_, hnv gb hgb h.vb⟩
  · rw [List.length_append, List.map_append]
    exact ho
  · rcases List.mem_append.1 hx with h1 | h1
    · exact (h.row x h1).block (hblk _ (h.row x h1).lt fun e => (h.ob x h1).1 e.symm)
    · simp at h1
      subst h1
      exact hr.block (hblk _ hr.lt hv)
  · rcases List.mem_append.1 hx with h1 | h1
    · exact h.on x h1
    · simp at h1
      subst h1
      exact hon
  · rcases List.mem_append.1 hx with h1 | h1
    · exact h.lo x h1
    · simp at h1
      subst h1
      exact hlo
  · rcases List.mem_append.1 hx with h1 | h1
    · exact ⟨fun e => hnv _ (h.row x h1).lt (fun e2 => (h.ob x h1).1 e2.symm) e.symm, (h.ob x h1).2⟩
    · simp at h1
      subst h1
      exact ⟨fun e => hnv _ hr.lt hv e.symm, hyb⟩
  · rw [List.map_append]
    refine List.nodup_append.2 ⟨h.nd, by simp, fun a ha b hb => ?_⟩
    obtain ⟨x, hx, rfl⟩ := List.mem_map.1 ha
    simp at hb
    subst hb
    exact hne x hx
/-- Two factors side by side written in place. -/
theorem Fac.two {n lo gb i : Nat} {w w' : World} {v : Value} {H : List Fh} {x y : Fh} {p' q' : Pm} {f' h' : Nat → Value} (h : Fac n lo gb w v H) (hx : H[i]? = some x) (hy : H[i + 1]? = some y) (hp : RowP n w' x.g x.c p' f') (hq : RowP n w' y.g y.c q' h')
    (hpo : p'.On n) (hqo : q'.On n) (ht : Tch (fun b => b = x.g ∨ b = y.g) w w') : Fac n lo gb w' v ((H.set i ⟨x.g, x.c, p', f'⟩).set (i + 1) ⟨y.g, y.c, q', h'⟩) := by
  have hil := (List.getElem?_eq_some_iff.1 hx).1
  have hjl := (List.getElem?_eq_some_iff.1 hy).1
  have hxm := List.mem_of_getElem? hx
  have hym := List.mem_of_getElem? hy
  have same : ∀ {β : Type} (F : Fh → β), F ⟨x.g, x.c, p', f'⟩ = F x → F ⟨y.g, y.c, q', h'⟩ = F y → ((H.set i ⟨x.g, x.c, p', f'⟩).set (i + 1) ⟨y.g, y.c, q', h'⟩).map F = H.map F := by
    intro β F e1 e2
    refine List.ext_getElem? fun j => ?_
    rw [List.map_set, List.map_set, e1, e2, List.getElem?_set, List.getElem?_set, List.length_set, List.length_map]
    by_cases a : i + 1 = j
    · subst a
      rw [if_pos rfl, if_pos hjl, List.getElem?_map, hy]
      rfl
    · rw [if_neg a]
      by_cases b : i = j
      · subst b
        rw [if_pos rfl, if_pos hil, List.getElem?_map, hx]
        rfl
      · rw [if_neg b]
  have at_ : ∀ z, z ∈ ((H.set i ⟨x.g, x.c, p', f'⟩).set (i + 1) ⟨y.g, y.c, q', h'⟩) → z = ⟨x.g, x.c, p', f'⟩ ∨ z = ⟨y.g, y.c, q', h'⟩ ∨ (z ∈ H ∧ z.g ≠ x.g ∧ z.g ≠ y.g) := by
    intro z hz
    obtain ⟨j, hj⟩ := List.mem_iff_getElem?.1 hz
    rw [List.getElem?_set, List.getElem?_set, List.length_set] at hj
    by_cases a : i + 1 = j
    · rw [if_pos a, if_pos (by omega)] at hj
      injection hj with hj
      exact .inr (.inl hj.symm)
    · rw [if_neg a] at hj
      by_cases b : i = j
      · rw [if_pos b, if_pos (by omega)] at hj
        injection hj with hj
        exact .inl hj.symm
      · rw [if_neg b] at hj
        exact .inr (.inr ⟨List.mem_of_getElem? hj, nodup_at h.nd hj hx (fun e => b e.symm), nodup_at h.nd hj hy (fun e => a e.symm)⟩)
  refine ⟨?_, fun z hz => ?_, fun z hz => ?_, fun z hz => ?_, fun z hz => ?_, ?_, h.vb⟩
  · rw [List.length_set, List.length_set, same (Fh.hd n) rfl rfl]
    exact h.off.block fun g hg hl => ht.block g hl (by rintro (e | e); exact (h.ob x hxm).1 (by rw [hg, e]); exact (h.ob y hym).1 (by rw [hg, e]))
  · rcases at_ z hz with rfl | rfl | ⟨h1, h2, h3⟩
    · exact hp
    · exact hq
    · exact (h.row z h1).block (ht.block _ (h.row z h1).lt (by rintro (e | e); exact h2 e; exact h3 e))
  · rcases at_ z hz with rfl | rfl | ⟨h1, h2, h3⟩
    · exact hpo
    · exact hqo
    · exact h.on z h1
  · rcases at_ z hz with rfl | rfl | ⟨h1, h2, h3⟩
    · exact h.lo x hxm
    · exact h.lo y hym
    · exact h.lo z h1
  · rcases at_ z hz with rfl | rfl | ⟨h1, h2, h3⟩
    · exact h.ob x hxm
    · exact h.ob y hym
    · exact h.ob z h1
  · rw [same Fh.g rfl rfl]
    exact h.nd

/-- No letter can move from the k-th place on. -/
def Suff (n : Nat) (L : List Pm) (k : Nat) : Prop := ∀ (i : Nat) (p q : Pm), k ≤ i → L[i]? = some p → L[i + 1]? = some q → ∀ s, 1 ≤ s → s < n → q.start s → p.fin s
theorem Suff.sett {n : Nat} {L : List Pm} (h : Suff n L 0) : Sett n L := sett_of_pref (j := L.length) (by omega) fun i p q _ h1 h2 => h i p q (Nat.zero_le _) h1 h2
theorem Suff.next {n : Nat} {L : List Pm} {j : Nat} {p q : Pm} (h : Suff n L (j + 1)) (hp : L[j]? = some p) (hq : L[j + 1]? = some q) (hs : ∀ k, 1 ≤ k → k < n → q.start k → p.fin k) : Suff n L j := by
  intro i a b hi h1 h2
  by_cases hij : i = j
  · subst hij
    rw [hp] at h1
    rw [hq] at h2
    injection h1 with h1
    injection h2 with h2
    subst h1 h2
    exact hs
  · exact h i a b (by omega) h1 h2
theorem set_same {α : Type} {L : List α} {i : Nat} {a : α} (h : L[i]? = some a) : L.set i a = L := by
  obtain ⟨hi, e⟩ := List.getElem?_eq_some_iff.1 h
  rw [← e, List.set_getElem_self]
/-- Two factors side by side. -/
theorem Fac.get2 {n lo gb : Nat} {w : World} {A : Option Addr} {m c : Nat} {H : List Fh} (h : Fac n lo gb w (.slice A m c) H) {k : Nat} (hk : k + 1 < H.length) :
    ∃ g off x y, A = some ⟨g, off, none⟩ ∧ H[k]? = some x ∧ H[k + 1]? = some y ∧ w.cell? ⟨g, off + k, none⟩ = some (.slice (some ⟨x.g, 0, none⟩) n x.c) ∧ w.cell? ⟨g, off + (k + 1), none⟩ = some (.slice (some ⟨y.g, 0, none⟩) n y.c) ∧ x.g ≠ y.g := by
  obtain ⟨g, off, cap, x, e, h1, _, h2, _⟩ := h.get (k := k) (by omega)
  obtain ⟨g', off', cap', y, e', h1', _, h2', _⟩ := h.get (k := k + 1) hk
  rw [e] at e'
  injection e with e1 _ _
  injection e' with e2 _ _
  injection e2 with e2
  injection e2 with e3 e4
  subst e3 e4
  exact ⟨g, off, x, y, e1, h1, h1', h2, h2', nodup_at h.nd h1 h1' (by omega)⟩
set_option maxHeartbeats 4000000 in
set_option maxRecDepth 100000 in
theorem times_any (n : Nat) (hn2 : 2 ≤ n) (hn : n ≤ 12) (lo gb : Nat) (pw : Int) (v : Value) (H : List Fh) (p : Pm) (u : Value) (w : World) (hbx : BoxN n gb w pw v) (hfc : Fac n lo gb w v H) (hlo : lo ≤ gb)
    (hu : RdI w w.heap.size u (lst n p)) (hpo : p.On n) (hp0 : -1000000 ≤ pw) (hp1 : pw ≤ 1000000) (hlen : H.length ≤ 900000) :
    Calls Try.prog 94 #[.pointer (some ⟨gb, 0, none⟩), u] w fun e w' => e = .returned (.tuple #[]) ∧ ∃ (a : Nat) (v' : Value) (H' : List Fh), BoxN n gb w' (pw + a) v' ∧ Fac n lo gb w' v' H' ∧ Nrm n (H.map Fh.p ++ [p]) a (H'.map Fh.p) ∧ Below lo w w' := by
  obtain ⟨i0, hi, hy0, hy1, hy2⟩ := info_parts info_hd
  have HBX := Lib.hid hbx
  have HFC := Lib.hid hfc
  have hgb := hbx.lt
  have HQ := Lib.hid (cloneI_any u (lst n p) w.drew hu (by rw [lst_len]; omega))
  obtain ⟨-, -, d2⟩ := hbx.cells
  obtain ⟨A, c, rfl, hmc, hcm⟩ := hfc.off.shape
  obtain ⟨Au, cu, rfl⟩ := hu.len
  have hvb := hfc.vb
  have hone : Hid (∀ z ∈ H.map (Fh.hd n), z.oneCell' = true) := fun z hz => by obtain ⟨x, _, rfl⟩ := List.mem_map.1 hz; rfl
  generalize hm : H.length = m at *
  have HM := Lib.hid hm
  unfold maxLen at hcm
  clear hbx hfc hu hm
  go_enter Try.func94, Try.ntmps94
  go_upto_region 0 with fail
  go_cut [] from 6 (fun wc => ∃ (v1 : Value) (y : Fh), Hid (BoxN n gb wc pw v1) ∧ Hid (Fac n lo gb wc v1 (H ++ [y])) ∧ Hid (y.p = p) ∧ Hid (Below lo w wc))
  case first =>
    go_region_law ((first | (refine step_append_off _ rfl _ _ _ rfl lo 22 i0 _ 24 Try.underlying84 hi hy0 hy1 hy2 rfl _ m (H.map (Fh.hd n)) (by rfl) HO1.out hone.out ⟨w1.heap.size, 0, none⟩ 1 (.slice (some ⟨g1, 0, none⟩) n cap1) (by rfl) (by simp [go_sem]) rfl (by omega) (by omega) (by simp; omega) ?_; intro v2 w2 hown2 hg2 hat2; obtain ⟨A2, c2, rfl, -⟩ := hown2.shape; have x2 : w2.cell? ⟨gb, 2, none⟩ = some (.slice A m c) := (hg2.cell_far ⟨gb, 2, none⟩ (by simp; omega) (Ne.symm hvb)).trans ((((Below.refl w1.heap.size w1).alloc (Nat.le_refl _) _).cell (p := ⟨gb, 2, none⟩) hgb1).trans q2); have f2 : w2.frozen? ⟨gb, 2, none⟩ = false := (hg2.frozen_far ⟨gb, 2, none⟩ (by simp; omega) (Ne.symm hvb)).trans ((((Below.refl w1.heap.size w1).alloc (Nat.le_refl _) _).frozen (p := ⟨gb, 2, none⟩) hgb1).trans qf)) | (go_simp; go_wp2_with ((go_at_call 104; refine HQ.out.mono ?_; rintro e w1 ⟨v1, rfl, ho1, hb1⟩; obtain ⟨g1, cap1, F1, rfl, hlo1, hhi1, hrow1, hnc1, hcap1, hval1⟩ := own_lst ho1 (by omega); simp only [lst_len] at *; have hb2 : Below w.heap.size w w1 := (Below.refl w.heap.size w).drew.trans hb1; have q2 := (hb2.cell (p := ⟨gb, 2, none⟩) hgb).trans d2; have qf : w1.frozen? ⟨gb, 2, none⟩ = false := ((bcell hb2).2 _ _ hgb).trans (HBX.out.frozen 2); have hgb1 : gb < w1.heap.size := (by have := hb2.size; omega); have HR1 := Lib.hid (show RowP n w1 g1 cap1 p F1 from ⟨hrow1, hnc1, hcap1, hval1⟩); have HB2 := Lib.hid hb2; have HG1 := Lib.hid (show w.heap.size ≤ g1 from hlo1); have hsz1 := hb2.size; have HO1 := Lib.hid ((HM.out ▸ (HFC.out.below hb2).off : OffRow w1 lo 22 (.slice A m c) m (H.map (Fh.hd n))).block (w' := w1.alloc (.cells #[.slice (some ⟨g1, 0, none⟩) n cap1] 22)) fun g hg hl => heap_alloc_old w1 _ hl); clear hb1 hb2 ho1 hrow1 hval1)))))
    all_goals
      have HW2 := Lib.hid (((HB2.out.mono (B' := lo) (by omega)).alloc (by omega) (.cells #[.slice (some ⟨g1, 0, none⟩) n cap1] 22)).grown hg2 (by simp; omega) (fun kk hkk => (HFC.out.lt hkk).1))
      have HF2 := Lib.hid (Fac.snoc (y := ⟨g1, cap1, p, F1⟩) (HFC.out.below HB2.out) hgb1 HR1.out hpo (by have := HG1.out; show lo ≤ g1; omega) (fun e => by have h9 : g1 < w.heap.size := (HFC.out.lt e).2; have := HG1.out; omega) (by have := HG1.out; show g1 ≠ gb; omega) (fun x hx => by have := (HFC.out.row x hx).lt; have := HG1.out; show x.g ≠ g1; omega) (by rw [HM.out]; exact hown2) hg2 hat2)
      have HX2 := Lib.hid (HBX.out.block (((hg2.block gb (by simp; omega) (Ne.symm hvb)).trans (heap_alloc_old w1 _ hgb1)).trans (HB2.out.block gb hgb)))
      clear hg2 hat2 hown2
      go_wp2
      go_meet
      case rel => exact ⟨_, ⟨g1, cap1, p, F1⟩, HX2.out.fac _, HF2.out.box rfl _, rfl, HW2.out.setCell (p := ⟨gb, 2, none⟩) hlo _⟩
  case rest =>
    obtain ⟨v1, y, HB1, HF1, HY, HW1⟩ := hcut
    obtain ⟨wa, rfl⟩ : ∃ x : World, x = wc := ⟨_, rfl⟩
    obtain ⟨A1, c1, rfl, hmc1, hcm1⟩ := HF1.out.off.shape
    have HL0 : Hid ((H ++ [y]).length = m + 1) := by unfold Hid; rw [List.length_append, HM.out]; rfl
    have HP0 : Hid ((H ++ [y]).map Fh.p = H.map Fh.p ++ [p]) := by unfold Hid; rw [List.map_append, List.map_cons, HY.out]; rfl
    rw [HL0.out] at HB1 HF1 hmc1
    generalize H ++ [y] = H0 at *
    unfold maxLen at hcm1
    clear d2 hmc hcm hvb hone HQ
    go_wp2
    go_loopg [4] (mes n (H0.map Fh.p) + 1) (fun gk s4 wr => ∃ (ch : Bool) (H1 : List Fh), s4 = .bool ch ∧ Hid (gk = if ch then mes n (H1.map Fh.p) + 1 else 0) ∧ Hid (BoxN n gb wr pw (.slice A1 (m + 1) c1)) ∧ Hid (Fac n lo gb wr (.slice A1 (m + 1) c1) H1) ∧ Hid (H1.length = m + 1) ∧ Hid (Rch n (H0.map Fh.p) (H1.map Fh.p)) ∧ Hid (ch = false → Sett n (H1.map Fh.p)) ∧ Hid (Below lo w wr))
    case atStart => exact ⟨true, H0, rfl, rfl, HB1.out, HF1.out, HL0.out, .refl, fun h => (by cases h), HW1.out⟩
    case round =>
      obtain ⟨wo, rfl⟩ : ∃ x : World, x = wr := ⟨_, rfl⟩
      obtain ⟨ch, H1, rfl, HG, HBO, HFO, HL1, HR1, HS1, HWO⟩ := hrel
      obtain ⟨gko, rfl⟩ : ∃ x : Nat, x = gk := ⟨_, rfl⟩
      have HON := Lib.hid (show AllOn n (H1.map Fh.p) by intro q hq; obtain ⟨z, hz, rfl⟩ := List.mem_map.1 hq; exact HFO.out.on z hz)
      cases ch
      · have HSE := Lib.hid (HS1.out rfl)
        have HTQ := Lib.hid (tidy_any n hn2 hn lo gb pw _ H1 wo HBO.out HFO.out hlo HSE.out hp0 hp1 (by rw [HL1.out]; omega))
        go_wp2_with fail
        refine HTQ.out.mono ?_
        rintro e w2 ⟨rfl, a, b, v', H', hbx', hfc', he, hgd, hbl⟩
        have HE := Lib.hid (show BoxN n gb w2 (pw + a) v' ∧ Fac n lo gb w2 v' H' ∧ Nrm n (H.map Fh.p ++ [p]) a (H'.map Fh.p) ∧ Below lo w w2 from ⟨hbx', hfc', ⟨hgd, b, by rw [← he, ← HP0.out]; exact HR1.out, by rw [← he]; exact HSE.out⟩, HWO.out.trans hbl⟩)
        clear hbx' hfc' he hgd hbl
        go_wp2
        go_end0
        exact ⟨rfl, a, v', H', HE.out⟩
      · obtain ⟨-, -, d2⟩ := HBO.out.cells
        go_wp2
        go_loopg [4, 5] m (fun gj s4 s5 wi => ∃ (cx : Bool) (H2 : List Fh) (k : Nat), s4 = .bool cx ∧ s5 = .int .i64 ((k : Int) - 1) ∧ Hid (gj = k) ∧ k ≤ m ∧ Hid (BoxN n gb wi pw (.slice A1 (m + 1) c1)) ∧ Hid (Fac n lo gb wi (.slice A1 (m + 1) c1) H2) ∧ Hid (H2.length = m + 1) ∧
          Hid (Rch n (H1.map Fh.p) (H2.map Fh.p)) ∧ Hid (cx = false → H2.map Fh.p = H1.map Fh.p ∧ Suff n (H1.map Fh.p) k) ∧ Hid (cx = true → Rch1 n (H1.map Fh.p) (H2.map Fh.p)) ∧ Hid (Below lo w wi))
        case atStart => exact ⟨false, H1, m, rfl, by simp; omega, rfl, Nat.le_refl _, HBO.out, HFO.out, HL1.out, .refl, fun _ => ⟨rfl, fun i a b hi h1 h2 => absurd (List.getElem?_eq_some_iff.1 h2).1 (by rw [List.length_map, HL1.out]; omega)⟩, fun h => (by cases h), HWO.out⟩
        case round =>
          obtain ⟨wi, rfl⟩ : ∃ x : World, x = wr := ⟨_, rfl⟩
          obtain ⟨cx, H2, k, rfl, h5, HGJ, hk, HBI, HFI, HL2, HR2, HS2, HT2, HWI⟩ := hrel
          obtain ⟨gji, rfl⟩ : ∃ x : Nat, x = gk := ⟨_, rfl⟩
          cases k with
          | zero =>
            simp only [Int.ofNat_zero, Int.zero_sub] at h5
            subst h5
            go_wp2
            go_roundg (if cx then mes n (H2.map Fh.p) + 1 else 0)
            case measure =>
              rw [HG.out]
              cases cx
              · simp
              · have := (HT2.out rfl).mes HON.out
                simp
                omega
            case rel => exact ⟨cx, H2, rfl, rfl, HBI.out, HFI.out, HL2.out, HR1.out.trans HR2.out, fun h => (by obtain ⟨e, hs⟩ := HS2.out h; rw [e]; exact hs.sett), HWI.out⟩
          | succ j =>
            have h6 : (((j + 1 : Nat) : Int) - 1) = j := by omega
            rw [h6] at h5
            subst h5
            clear h6
            obtain ⟨g, off, x, y2, e, hx, hy, c0, c1', hxy⟩ := HFI.out.get2 (k := j) (by rw [HL2.out]; omega)
            subst e
            obtain ⟨-, -, d2⟩ := HBI.out.cells
            have HX := Lib.hid hx
            have HYY := Lib.hid hy
            have hxm := List.mem_of_getElem? hx
            have hym := List.mem_of_getElem? hy
            have HRX := Lib.hid (HFI.out.row x hxm)
            have HRY := Lib.hid (HFI.out.row y2 hym)
            have HXY := Lib.hid hxy
            have HWQ := Lib.hid (weigh_any n hn2 hn x.p y2.p (HFI.out.on x hxm) (HFI.out.on y2 hym) x.g y2.g x.c y2.c x.f y2.f wi.drew (HRX.out.block rfl) (HRY.out.block rfl) hxy)
            have HAL := Lib.hid (show AllOn n [x.p, y2.p] by intro q hq; simp at hq; rcases hq with rfl | rfl; exact HFI.out.on x hxm; exact HFI.out.on y2 hym)
            have hle1 := HRX.out.le
            have hle2 := HRY.out.le
            have hca1 := HRX.out.cap
            have hca2 := HRY.out.cap
            unfold maxLen at hca1 hca2
            have hj0 : (0 : Int) ≤ (j : Int) := by omega
            have hjm : (j : Int) < (m : Int) + 1 := by omega
            have hjm2 : (j : Int) + 1 < (m : Int) + 1 := by omega
            have hjm3 : j < m := by omega
            have hjm4 : (j : Int) < (m : Int) := by omega
            have hjm5 : (0 : Int) ≤ (j : Int) + 1 := by omega
            have hjm6 : j < m + 1 := by omega
            have hjb : j < 1000000 := by omega
            have hwr : IntKind.wrap .i64 ((j : Int) + 1) = (j : Int) + 1 := by unfold IntKind.wrap; simp [IntKind.bits, IntKind.signed]; omega
            clear hx hy hxm hym hxy
            go_upto_region 7 with fail
            go_cut [43] from 24 to 43 (fun s43 wx => ∃ (ch : Bool) (p' q' : Pm) (f' h' : Nat → Value), s43 = .bool ch ∧ Hid (Rch n [x.p, y2.p] [p', q']) ∧ Hid (∀ k, 1 ≤ k → k < n → q'.start k → p'.fin k) ∧ Hid (ch = false → p' = x.p ∧ q' = y2.p) ∧ Hid (ch = true → Rch1 n [x.p, y2.p] [p', q']) ∧ Hid (RowP n wx x.g x.c p' f') ∧ Hid (RowP n wx y2.g y2.c q' h') ∧ Hid (Tch (fun b => b = x.g ∨ b = y2.g) wi wx))
            case first =>
              go_region_with ((go_at_call 105; refine HWQ.out.mono ?_; rintro e w2 ⟨ch, p', q', f', h', rfl, k1, k2, k3, k4, k5, k6, k7⟩; have K1 := Lib.hid k1; have K2 := Lib.hid k2; have K3 := Lib.hid k3; have K4 := Lib.hid k4; have K5 := Lib.hid k5; have K6 := Lib.hid k6; have K7 := Lib.hid k7; clear k1 k2 k3 k4 k5 k6 k7))
              all_goals
                go_wp2
                go_meet
                case rel => exact ⟨ch, p', q', f', h', rfl, K1.out, K2.out, K3.out, K4.out, K5.out, K6.out, (Tch.refl _ wi).drew.trans K7.out⟩
            case rest =>
              obtain ⟨ch, p', q', f', h', rfl, K1, K2, K3, K4, K5, K6, K7⟩ := hcut
              obtain ⟨wy, rfl⟩ : ∃ x : World, x = wc := ⟨_, rfl⟩
              have HAL2 := Lib.hid (HAL.out.rch K1.out)
              have hxm := List.mem_of_getElem? HX.out
              have hym := List.mem_of_getElem? HYY.out
              have HF3 := Lib.hid (HFI.out.two HX.out HYY.out K5.out K6.out (HAL2.out p' (by simp)) (HAL2.out q' (by simp)) K7.out)
              have HB3 := Lib.hid (HBI.out.block (K7.out.block gb HBI.out.lt (by rintro (e | e); exact (HFI.out.ob x hxm).2 e.symm; exact (HFI.out.ob y2 hym).2 e.symm)))
              have HLX := Lib.hid (HFI.out.lo x hxm)
              have HLY := Lib.hid (HFI.out.lo y2 hym)
              have HW3 := Lib.hid (HWI.out.trans (K7.out.below (B := lo) (fun k hk => by rcases hk with rfl | rfl; exact HLX.out; exact HLY.out) (by have := HBI.out.lt; omega)))
              have HMX : Hid ((H2.map Fh.p)[j]? = some x.p) := by unfold Hid; rw [List.getElem?_map, HX.out]; rfl
              have HMY : Hid ((H2.map Fh.p)[j + 1]? = some y2.p) := by unfold Hid; rw [List.getElem?_map, HYY.out]; rfl
              have HMP : Hid (((H2.set j ⟨x.g, x.c, p', f'⟩).set (j + 1) ⟨y2.g, y2.c, q', h'⟩).map Fh.p = ((H2.map Fh.p).set j p').set (j + 1) q') := by unfold Hid; rw [List.map_set, List.map_set]
              have HRC := Lib.hid (rch_at K1.out HMX.out HMY.out)
              have HL3 : Hid (((H2.set j ⟨x.g, x.c, p', f'⟩).set (j + 1) ⟨y2.g, y2.c, q', h'⟩).length = m + 1) := by unfold Hid; rw [List.length_set, List.length_set]; exact HL2.out
              clear hxm hym
              generalize (H2.set j ⟨x.g, x.c, p', f'⟩).set (j + 1) ⟨y2.g, y2.c, q', h'⟩ = H3 at *
              cases ch
              · obtain ⟨rfl, rfl⟩ := K3.out rfl
                have HSM : Hid (H3.map Fh.p = H2.map Fh.p) := by unfold Hid; rw [HMP.out, set_same HMX.out, set_same HMY.out]
                go_wp2
                go_roundg j
                case measure => rw [HGJ.out]; omega
                case rel =>
                  exact ⟨cx, H3, j, rfl, rfl, rfl, by omega, HB3.out, HF3.out, HL3.out, by unfold Hid; rw [HSM.out]; exact HR2.out, fun h => (by obtain ⟨e, hs⟩ := HS2.out h; exact ⟨by rw [HSM.out, e], hs.next (by rw [← e]; exact HMX.out) (by rw [← e]; exact HMY.out) K2.out⟩), fun h => (by rw [HSM.out]; exact HT2.out h), HW3.out⟩
              · have HR1C := Lib.hid (rch1_at (K4.out rfl) HMX.out HMY.out)
                go_wp2
                go_roundg j
                case measure => rw [HGJ.out]; omega
                case rel =>
                  exact ⟨true, H3, j, rfl, rfl, rfl, by omega, HB3.out, HF3.out, HL3.out, by unfold Hid; rw [HMP.out]; exact HR2.out.trans HRC.out, fun h => (by cases h), fun _ => (by rw [HMP.out]; exact Rch1.after HR2.out HR1C.out), HW3.out⟩

end Go.Proofs.Ytfeonaocmnpkcaa

/-
  The program's normal form of a word; when two are the same.
-/
namespace Go.Proofs.Ytfeonaocmnpkcaa
set_option linter.unusedVariables false
set_option linter.unusedSimpArgs false
open Go.RowKit

set_option maxHeartbeats 1000000 in
theorem sameNormF_any (v u : Value) (a b : List Int) (w : World) (hl : RdI w w.heap.size v a) (hm : RdI w w.heap.size u b) :
    Calls Try.prog 88 #[v, u] w fun e w' => e = .returned (.bool (decide (a = b))) ∧ Below w.heap.size w w' := by
  have HQ := Lib.hid (eqlInts_any v u a b w _ hl hm (Nat.le_refl _))
  obtain ⟨A, c, rfl⟩ := hl.len
  obtain ⟨A', c', rfl⟩ := hm.len
  clear hl hm
  go_enter Try.func88, Try.ntmps88
  go_wp2_with fail
  refine HQ.out.mono ?_
  rintro e w1 ⟨rfl, hb⟩
  go_wp2
  go_ret
  exact ⟨rfl, hb⟩

set_option maxHeartbeats 2000000 in
set_option maxRecDepth 100000 in
theorem eqfL2_any (v u : Value) (l m : List (List Int)) (w : World) (hl : RdL2 w w.heap.size v l) (hm : RdL2 w w.heap.size u m) :
    Calls Try.prog 87 #[v, u, .func (.func 88) #[] #[]] w fun x w' => x = .returned (.bool (decide (l = m))) ∧ Below w.heap.size w w' := by
  have HLL := Lib.hid hl
  have HMM := Lib.hid hm
  obtain ⟨A, n, c, rfl, hln, hl, -⟩ := hl
  obtain ⟨A', n', c', rfl, hmn, hm, -⟩ := hm
  by_cases hlen : n = n'
  · subst hlen
    go_enter Try.func87, Try.ntmps87
    go_wp2
    go_loopw [7, 17] (fun _ i wr => ∃ k : Nat, k ≤ n ∧ i = .int .i64 k ∧ Hid (decide (l = m) = decide (l.drop k = m.drop k)) ∧ Below w.heap.size w wr) (fun _ i _ => n - (intOf i).toNat)
    case atStart => exact ⟨0, Nat.zero_le _, rfl, rfl, Below.refl _ _⟩
    case round =>
      rename_i wr
      obtain ⟨k, hk, rfl, hd, hb⟩ := hrel
      by_cases hlt : k < n
      · obtain ⟨b, off, x, s, rfl, hbb, hlk, hc, hs⟩ := HLL.out.at_ hlt
        obtain ⟨b', off', y, t, rfl, hbb', hmk, hc', ht⟩ := HMM.out.at_ hlt
        have e0 := (hb.cell (p := ⟨b, off + k, none⟩) hbb).trans hc
        have e1 := (hb.cell (p := ⟨b', off' + k, none⟩) hbb').trans hc'
        have HQ := Lib.hid (sameNormF_any s t x y wr ((hs.below hb).more hb.size) ((ht.below hb).more hb.size))
        obtain ⟨As, cs, rfl⟩ := hs.len
        obtain ⟨At, ct, rfl⟩ := ht.len
        have HB := Lib.hid hb
        have Hl := Lib.hid hlk
        have Hm := Lib.hid hmk
        clear hc hc' hlk hmk hb hs ht
        cases hxy : decide (x = y)
        all_goals
          have HXY := Lib.hid hxy
          clear hxy
          go_wp2_with fail
          refine HQ.out.mono ?_
          rintro e w1 ⟨rfl, hb1⟩
          rw [HXY.out]
          have HB1 := Lib.hid (HB.out.trans (hb1.mono HB.out.size))
          clear hb1
          go_wp2
          first
          | (go_ret
             exact ⟨ret_bool (by rw [hd.out, drop_of_get Hl.out, drop_of_get Hm.out]; have := HXY.out; simp_all), HB1.out⟩)
          | exact ⟨⟨k + 1, by omega, by go_num, by unfold Hid; rw [hd.out, drop_of_get Hl.out, drop_of_get Hm.out]; have := HXY.out; simp_all, HB1.out⟩, by simp [intOf]; omega⟩
      · have HB := Lib.hid hb
        clear hb
        go_wp2
        go_ret
        exact ⟨ret_bool (by rw [hd.out, List.drop_of_length_le (by have := hl.out; omega), List.drop_of_length_le (by have := hm.out; omega)]; simp), HB.out⟩
  · have hd1 : ((n : Int) != (n' : Int)) = true := by simp; omega
    go_enter Try.func87, Try.ntmps87
    go_wp2
    go_ret
    exact ⟨ret_bool (by symm; simp; rintro rfl; exact hlen (hl.out.symm.trans hm.out)), Below.refl _ _⟩

/-- The value of a normal form. -/
def RdNF (n : Nat) (w : World) (B : Nat) (v : Value) (s : St) : Prop := ∃ u, v = .agg #[.int .i64 (n : Int), .int .i64 s.p, u] ∧ RdL2 w B u (lstL n s.F)
theorem Fac.rd {n lo gb : Nat} {w : World} {v : Value} {H : List Fh} (h : Fac n lo gb w v H) : RdL2 w w.heap.size v (lstL n (H.map Fh.p)) := by
  obtain ⟨A, c, rfl, h1, h2⟩ := h.off.shape
  unfold maxLen at h2
  refine ⟨A, _, c, rfl, by omega, by simp [Hid, lstL], fun k hk => ?_⟩
  obtain ⟨g, off, cap, x, e, hx, hxm, c0, _, _, _, hg, _⟩ := h.get hk
  injection e with e1 e2 e3
  subst e1 e3
  refine ⟨g, off, lst n x.p, [.slice (some ⟨x.g, 0, none⟩) n x.c], rfl, hg, by simp [lstL, hx], rfl, fun j u hu => ?_, _, rfl, (h.row x hxm).rd⟩
  rcases j with _ | j
  · simp at hu
    subst hu
    simpa using c0
  · simp at hu
theorem isNF_bd {n : Nat} {w : List Int} {s : St} (h : IsNF n w s) : -(w.length : Int) ≤ s.p ∧ s.p ≤ w.length ∧ s.F.length ≤ w.length := by
  obtain ⟨a, h1, h2⟩ := h.ex
  have h3 := h1.len
  rw [raw_len] at h3
  have h4 := pow0_bd w
  omega

theorem lstL_inj {n : Nat} {L M : List Pm} (hL : AllOn n L) (hM : AllOn n M) (h : lstL n L = lstL n M) : L = M := by
  induction L generalizing M with
  | nil =>
    cases M with
    | nil => rfl
    | cons y M => simp [lstL] at h
  | cons x L ih =>
    cases M with
    | nil => simp [lstL] at h
    | cons y M =>
      simp only [lstL, List.map_cons, List.cons.injEq] at h
      rw [lst_inj (hL x (by simp)) (hM y (by simp)) h.1, ih (fun z hz => hL z (List.mem_cons_of_mem _ hz)) (fun z hz => hM z (List.mem_cons_of_mem _ hz)) h.2]
set_option maxHeartbeats 2000000 in
set_option maxRecDepth 100000 in
open Classical in
theorem sameNormal_any (n : Nat) (v u : Value) (s t : St) (w : World) (hs : RdNF n w w.heap.size v s) (ht : RdNF n w w.heap.size u t) (hso : AllOn n s.F) (hto : AllOn n t.F) :
    Calls Try.prog 71 #[v, u] w fun e w' => e = .returned (.bool (decide (s = t))) ∧ Below w.heap.size w w' := by
  obtain ⟨vs, rfl, hs⟩ := hs
  obtain ⟨vt, rfl, ht⟩ := ht
  obtain ⟨As, ns, cs, rfl, _, _, _⟩ := (show RdL2 w w.heap.size vs (lstL n s.F) from hs)
  obtain ⟨At, nt, ct, rfl, _, _, _⟩ := (show RdL2 w w.heap.size vt (lstL n t.F) from ht)
  have HW0 := Lib.hid (show Below w.heap.size w ((w.alloc (.cells #[.int .i64 (n : Int), .int .i64 s.p, .slice As ns cs] 86)).alloc (.cells #[.int .i64 (n : Int), .int .i64 t.p, .slice At nt ct] 86)) from ((Below.refl _ _).alloc (Nat.le_refl _) _).alloc (by simp) _)
  have HQ := Lib.hid (eqfL2_any _ _ _ _ _ ((hs.below HW0.out).more HW0.out.size) ((ht.below HW0.out).more HW0.out.size))
  have HD : Hid (decide (s = t) = (decide (s.p = t.p) && decide (lstL n s.F = lstL n t.F))) := by
    unfold Hid
    rw [Bool.eq_iff_iff]
    simp only [Bool.and_eq_true, decide_eq_true_eq]
    constructor
    · rintro rfl; exact ⟨rfl, rfl⟩
    · rintro ⟨h1, h2⟩
      have h3 := lstL_inj hso hto h2
      obtain ⟨p, F⟩ := s
      obtain ⟨q, G⟩ := t
      simp only at h1 h3
      rw [h1, h3]
  clear hs ht
  by_cases hpq : s.p = t.p
  · rw [hpq] at HQ HW0 HD ⊢
    go_enter Try.func71, Try.ntmps71
    go_wp2_with fail
    refine HQ.out.mono ?_
    rintro e w1 ⟨rfl, hb⟩
    have HB := Lib.hid (HW0.out.trans (hb.mono HW0.out.size))
    clear hb
    go_wp2
    go_ret
    exact ⟨ret_bool (by rw [HD.out]; simp), HB.out⟩
  · have hne : (s.p == t.p) = false := by simpa using hpq
    have HD2 : Hid (decide (s = t) = false) := by unfold Hid; rw [HD.out]; simp [hpq]
    clear HD hpq
    go_enter Try.func71, Try.ntmps71
    go_wp2
    go_ret
    exact ⟨ret_bool HD2.out.symm, HW0.out⟩

end Go.Proofs.Ytfeonaocmnpkcaa

/-
  The normal form of a word, of the program.
-/
namespace Go.Proofs.Ytfeonaocmnpkcaa
set_option linter.unusedVariables false
set_option linter.unusedSimpArgs false
open Go.RowKit

theorem comp_behind (n k : Nat) (hk : 1 ≤ k) : (Pm.half n).comp (Pm.one.behind k hk) = (Pm.half n).behind k hk := Pm.ext' fun i => rfl

set_option maxHeartbeats 8000000 in
set_option maxRecDepth 100000 in
theorem normalOf_any (n : Nat) (hn : n ≤ 12) (l : List Int) (hl : LetsN n l) (hlen : l.length ≤ 5000) (v : Value) (w : World) (hv : RdI w w.heap.size v l) :
    Calls Try.prog 72 #[.int .i64 (n : Int), v] w fun e w' => ∃ (s : St) (u : Value), e = .returned u ∧ RdNF n w' w'.heap.size u s ∧ IsNF n l s ∧ Below w.heap.size w w' := by
  obtain ⟨A, c, rfl⟩ := hv.len
  have HL := Lib.hid hv
  have HLT := Lib.hid hl
  have HBD := Lib.hid (hl.bd hn)
  generalize hm : l.length = m at *
  have HM := Lib.hid hm
  clear hv hl hm
  have HB00 := Lib.hid (show Below w.heap.size w ((w.alloc (.cells #[.int .i64 0, .int .i64 0, .slice none 0 0] 86)).alloc (.cells #[.int .i64 (n : Int), .int .i64 0, .slice none 0 0] 86)) from ((Below.refl _ _).alloc (Nat.le_refl _) _).alloc (by simp) _)
  go_enter Try.func72, Try.ntmps72
  go_wp2
  go_loopg [13] m (fun gk i wr => ∃ (k : Nat) (s : St) (v1 : Value) (H : List Fh), gk = m - k ∧ k ≤ m ∧ i = .int .i64 k ∧ Hid (BoxN n (w.heap.size + 1) wr s.p v1) ∧ Hid (Fac n (w.heap.size + 1) (w.heap.size + 1) wr v1 H) ∧ Hid (s.F = H.map Fh.p) ∧ Hid (IsNF n (l.take k) s) ∧
    Hid (CellsAt wr w.heap.size 0 [.int .i64 0, .int .i64 0, .slice none 0 0]) ∧ Hid (∀ o, wr.frozen? ⟨w.heap.size, o, none⟩ = false) ∧ Hid (Below w.heap.size w wr))
  case atStart =>
    refine ⟨0, ⟨0, []⟩, .slice none 0 0, [], rfl, Nat.zero_le _, rfl, ?_, Fac.nil _ _ _ _, rfl, isNF_nil n, ?_, ?_, HB00.out⟩
    · have h := World.rowIs_alloc (w.alloc (.cells #[.int .i64 0, .int .i64 0, .slice none 0 0] 86)) #[.int .i64 (n : Int), .int .i64 0, .slice none 0 0] 86 (fun i => #[Value.int .i64 (n : Int), .int .i64 0, .slice none 0 0].getD i undef) (fun i hi => row_getD hi)
      simp only [World.alloc] at h ⊢
      exact ⟨_, by simpa using h, rfl, rfl, rfl⟩
    · intro j u hu; rcases j with _ | _ | _ | j <;> simp at hu <;> subst hu <;> simp [go_sem]
    · intro o; simp [go_sem]
  case round =>
    obtain ⟨wo, rfl⟩ : ∃ x : World, x = wr := ⟨_, rfl⟩
    obtain ⟨k, s, v1, H, rfl, hk, rfl, HBX, HFC, HSF, HNF, HC0, HFZ, HB⟩ := hrel
    obtain ⟨hp0, hp1, hp2⟩ := isNF_bd HNF.out
    rw [List.length_take] at hp0 hp1 hp2
    have hsz := HBX.out.lt
    by_cases hlt : k < m
    · obtain ⟨b, off, x, rfl, hbb, hx, hc⟩ := (HL.out.below HB.out).at_ hlt
      obtain ⟨hx0, hx1⟩ := HBD.out x (List.mem_of_getElem? hx)
      obtain ⟨hxn, hxk⟩ := HLT.out x (List.mem_of_getElem? hx)
      have HLX := Lib.hid (HLT.out x (List.mem_of_getElem? hx))
      have HT := Lib.hid (take_next hx)
      have HLP := Lib.hid (show LetsN n (l.take k) from fun y hy => HLT.out y (List.mem_of_mem_take hy))
      have HXC := Lib.hid hc
      have hhl : H.length ≤ 900000 := by have := congrArg List.length HSF.out; rw [List.length_map] at this; omega
      have hpp0 : -900000 ≤ s.p := by omega
      have hpp1 : s.p ≤ 1000000 := by omega
      clear hx hp0 hp1 hp2
      rcases Int.lt_trichotomy x 0 with hneg | hzero | hpos
      · obtain ⟨j, hj⟩ : ∃ j : Nat, x = -(j : Int) := ⟨(-x).toNat, by omega⟩
        subst hj
        have hj1 : 1 ≤ j := by omega
        have hjn : j < n := by omega
        have hn0 : 0 < n := by omega
        have hjneg : -(j : Int) < 0 := by omega
        have hjpos : ¬ (0 : Int) < -(j : Int) := by omega
        have hja : (-(j : Int)).natAbs = j := by omega
        have HLETS := Lib.hid (show lets n (-(j : Int)) = (Pm.half n).behind j hj1 by rw [lets_neg hjneg]; simp only [hja])
        have HFK := Lib.hid (show flipK n (-(j : Int)) s.F = flipL n s.F by unfold flipK; rw [if_neg hjpos])
        have HST := Lib.hid (show stepP s.p (-(j : Int)) = s.p - 1 by unfold stepP; rw [if_neg hjpos])
        have HQA := Lib.hid (size_any (-(j : Int)) (by omega) (by omega) wo)
        rw [if_pos hjneg, Int.neg_neg] at HQA
        clear hxn hxk hx0 hx1 hja hjpos
        go_wp2_with fail
        refine HQA.out.mono ?_
        rintro e w' ⟨rfl, rfl⟩
        go_wp2_with fail
        refine (letterPerm_any n j hn hj1 hjn _).mono ?_
        rintro e w2 ⟨v2, rfl, ho2, hb2⟩
        obtain ⟨g2, cap2, F2, rfl, hlo2, hhi2, hrow2, hnc2, hcap2, hval2⟩ := own_lst ho2 hn0
        have HRP := Lib.hid (show RowP n w2 g2 cap2 (Pm.one.behind j hj1) F2 from ⟨hrow2, hnc2, hcap2, hval2⟩)
        have HG2 := Lib.hid hlo2
        have HB2 := Lib.hid (HB.out.trans (hb2.mono HB.out.size))
        have HC2 := Lib.hid (HC0.out.below hb2 (by omega))
        have HFZ2 := Lib.hid (show ∀ o, w2.frozen? ⟨w.heap.size, o, none⟩ = false from fun o => (hb2.frozen (p := ⟨w.heap.size, o, none⟩) (by show w.heap.size < _; omega)).trans (HFZ.out o))
        have HBX2 := Lib.hid (HBX.out.block (hb2.block _ hsz))
        have HFC2 := Lib.hid (HFC.out.below hb2)
        have hz2 := hb2.size
        obtain ⟨y0, y1, y2⟩ := HBX2.out.cells
        have fy := fun o => HBX2.out.frozen o
        have hg2n : g2 ≠ w.heap.size + 1 := by omega
        have HQF := Lib.hid (flipAll_any n hn0 hn (w.heap.size + 1) (w.heap.size + 1) (s.p - 1) v1 H (w2.setCell ⟨w.heap.size + 1, 1, none⟩ (.int .i64 (s.p - 1))) (HBX2.out.pw _) (HFC2.out.box rfl _) (by simp; omega))
        have HR2 := Lib.hid (HRP.out.block (w' := w2.setCell ⟨w.heap.size + 1, 1, none⟩ (.int .i64 (s.p - 1))) (Go.Deep.blk_setCell_other _ _ _ _ hg2n))
        have HC3 := Lib.hid (HC2.out.far (p := ⟨w.heap.size + 1, 1, none⟩) (by simp) (.int .i64 (s.p - 1)))
        have HFZ3 := Lib.hid (show ∀ o, (w2.setCell ⟨w.heap.size + 1, 1, none⟩ (.int .i64 (s.p - 1))).frozen? ⟨w.heap.size, o, none⟩ = false from fun o => by rw [World.frozen?_setCell]; exact HFZ2.out o)
        have HB3 := Lib.hid (HB2.out.setCell (p := ⟨w.heap.size + 1, 1, none⟩) (by simp) (.int .i64 (s.p - 1)))
        have hsv : ∀ g, v1.ownBlock = some g → g < wo.heap.size := fun g hg => (HFC.out.lt hg).2
        have HNV := Lib.hid (show v1.ownBlock ≠ some g2 from fun e => by have := hsv _ e; omega)
        have hs3 : (w2.setCell ⟨w.heap.size + 1, 1, none⟩ (.int .i64 (s.p - 1))).heap.size = w2.heap.size := by simp
        have HS3 := Lib.hid hs3
        clear ho2 hb2 hrow2 hval2 hsv hs3
        simp only [lst_len] at *
        go_wp2_with fail
        refine HQF.out.mono ?_
        rintro e w3 ⟨rfl, H3, hbx3, hfc3, hfl, hbl3, htc3⟩
        have HBX3 := Lib.hid hbx3
        have HFC3 := Lib.hid hfc3
        have HFL := Lib.hid hfl
        have HBL3 := Lib.hid hbl3
        have HR3 := Lib.hid (HR2.out.block (htc3.block g2 HR2.out.lt HNV.out))
        clear hbx3 hfc3 hfl hbl3 htc3 y0 y1 y2 fy
        go_wp2_with fail
        refine (halfTwist_any n hn0 hn _).mono ?_
        rintro e w4 ⟨v4, rfl, ho4, hb4⟩
        have HQC := Lib.hid (compose_any n hn (Pm.half n) (Pm.one.behind j hj1) (Pm.on_half n) _ _ w4 (RdI.of_own ho4) (HR3.out.block (hb4.block _ HR3.out.lt)).rd)
        obtain ⟨A4, c4, rfl, -⟩ := ho4.cells
        have HB4 := Lib.hid hb4
        have hz4 := hb4.size
        clear ho4 hb4
        go_wp2_with fail
        refine HQC.out.mono ?_
        rintro e w5 ⟨v5, rfl, ho5, hb5⟩
        obtain ⟨A5, c5, rfl, -⟩ := ho5.cells
        have HB5 := Lib.hid (HB4.out.trans (hb5.mono hz4))
        have hz3 := HBX3.out.lt
        have hhl3 : H3.length ≤ 900000 := by have := congrArg List.length HFL.out; unfold flipL at this; rw [List.length_map, List.length_map, List.length_map] at this; omega
        have HTQ := Lib.hid (times_any n (by omega) hn (w.heap.size + 1) (w.heap.size + 1) (s.p - 1) v1 H3 ((Pm.half n).comp (Pm.one.behind j hj1)) _ w5 (HBX3.out.block (HB5.out.block _ hz3)) (HFC3.out.below HB5.out) (Nat.le_refl _) (RdI.of_own ho5) (by rw [comp_behind]; exact (Pm.on_half n).behind hj1 hjn) (by omega) (by omega) hhl3)
        clear ho5 hb5
        go_wp2_with fail
        refine HTQ.out.mono ?_
        rintro e w6 ⟨rfl, a, v', H', hbx', hfc', hnr, hbl⟩
        have HBX6 := Lib.hid hbx'
        have HFC6 := Lib.hid hfc'
        have HNF6 := Lib.hid (show IsNF n (l.take (k + 1)) ⟨s.p - 1 + a, H'.map Fh.p⟩ by rw [HT.out]; exact HNF.out.act HLP.out HLX.out ⟨a, by rw [HFK.out, HLETS.out, HSF.out, ← HFL.out, ← comp_behind n j hj1]; exact hnr, by rw [HST.out]⟩)
        have HBL6 := Lib.hid (show Below (w.heap.size + 1) (w2.setCell ⟨w.heap.size + 1, 1, none⟩ (.int .i64 (s.p - 1))) w6 from (HBL3.out.trans (HB5.out.mono (by omega))).trans hbl)
        clear hbx' hfc' hnr hbl
        go_wp2
        go_roundg (m - (k + 1))
        case measure => omega
        case rel => exact ⟨k + 1, ⟨s.p - 1 + a, H'.map Fh.p⟩, v', H', rfl, by omega, by go_num, HBX6.out, HFC6.out, rfl, HNF6.out, HC3.out.below HBL6.out (Nat.lt_succ_self _), fun o => (HBL6.out.frozen (p := ⟨w.heap.size, o, none⟩) (Nat.lt_succ_self _)).trans (HFZ3.out o), HB3.out.trans (HBL6.out.mono (by omega))⟩
      · exact absurd hzero hxn
      · obtain ⟨j, hj⟩ : ∃ j : Nat, x = (j : Int) := ⟨x.toNat, by omega⟩
        subst hj
        have hj1 : 1 ≤ j := by omega
        have hjn : j < n := by omega
        have hjneg : ¬ (j : Int) < 0 := by omega
        have hjpos : (0 : Int) < (j : Int) := by omega
        have HLETS := Lib.hid (show lets n (j : Int) = Pm.one.behind j hj1 by rw [lets_pos hjpos]; rfl)
        have HFK := Lib.hid (show flipK n (j : Int) s.F = s.F by unfold flipK; rw [if_pos hjpos])
        have HST := Lib.hid (show stepP s.p (j : Int) = s.p by unfold stepP; rw [if_pos hjpos])
        have HQA := Lib.hid (size_any (j : Int) (by omega) (by omega) wo)
        rw [if_neg hjneg] at HQA
        clear hxn hxk hx0 hx1
        go_wp2_with fail
        refine HQA.out.mono ?_
        rintro e w' ⟨rfl, rfl⟩
        go_wp2_with fail
        refine (letterPerm_any n j hn hj1 hjn _).mono ?_
        rintro e w2 ⟨v2, rfl, ho2, hb2⟩
        obtain ⟨A2, c2, rfl, -⟩ := ho2.cells
        have HB2 := Lib.hid (HB.out.trans (hb2.mono HB.out.size))
        have HC2 := Lib.hid (HC0.out.below hb2 (by omega))
        have HFZ2 := Lib.hid (show ∀ o, w2.frozen? ⟨w.heap.size, o, none⟩ = false from fun o => (hb2.frozen (p := ⟨w.heap.size, o, none⟩) (by show w.heap.size < _; omega)).trans (HFZ.out o))
        have HTQ := Lib.hid (times_any n (by omega) hn (w.heap.size + 1) (w.heap.size + 1) s.p v1 H (Pm.one.behind j hj1) _ w2 (HBX.out.block (hb2.block _ hsz)) (HFC.out.below hb2) (Nat.le_refl _) (RdI.of_own ho2) ((Pm.on_one n).behind hj1 hjn) (by omega) hpp1 hhl)
        have hz2 := hb2.size
        clear ho2 hb2
        go_wp2_with fail
        refine HTQ.out.mono ?_
        rintro e w3 ⟨rfl, a, v', H', hbx', hfc', hnr, hbl⟩
        have HBX3 := Lib.hid hbx'
        have HFC3 := Lib.hid hfc'
        have HNF3 := Lib.hid (show IsNF n (l.take (k + 1)) ⟨s.p + a, H'.map Fh.p⟩ by rw [HT.out]; exact HNF.out.act HLP.out HLX.out ⟨a, by rw [HFK.out, HLETS.out, HSF.out]; exact hnr, by rw [HST.out]⟩)
        have HBL := Lib.hid hbl
        clear hbx' hfc' hnr hbl
        go_wp2
        go_roundg (m - (k + 1))
        case measure => omega
        case rel => exact ⟨k + 1, ⟨s.p + a, H'.map Fh.p⟩, v', H', rfl, by omega, by go_num, HBX3.out, HFC3.out, rfl, HNF3.out, HC2.out.below HBL.out (Nat.lt_succ_self _), fun o => (HBL.out.frozen (p := ⟨w.heap.size, o, none⟩) (Nat.lt_succ_self _)).trans (HFZ2.out o), HB2.out.trans (HBL.out.mono (by omega))⟩
    · obtain rfl : k = m := by omega
      obtain ⟨y0, y1, y2⟩ := HBX.out.cells
      obtain ⟨z0, z1, z2⟩ := HC0.out.three
      have fz0 := HFZ.out
      have HT := Lib.hid (show l.take k = l from List.take_of_length_le (by rw [HM.out]; omega))
      have HRD := Lib.hid HFC.out.rd
      obtain ⟨A1, c1, rfl, hmc1, hcm1⟩ := HFC.out.off.shape
      go_wp2
      refine bodyPost_ret (v := .agg #[.int .i64 (n : Int), .int .i64 s.p, .slice A1 H.length c1]) (by simp [results, Try.results72, go_sem, y0, y1, y2, z0, z1, z2, World.cell?_setCell_other]) rfl ⟨s, _, rfl, ⟨_, rfl, ?_⟩, by rw [← HT.out]; exact HNF.out, ?_⟩
      · rw [HSF.out]
        refine Fac.rd (HFC.out.block2 fun k h1 _ _ => ?_)
        rw [Go.Deep.blk_setCell_other _ _ _ _ (by show k ≠ w.heap.size; omega), Go.Deep.blk_setCell_other _ _ _ _ (by show k ≠ w.heap.size; omega), Go.Deep.blk_setCell_other _ _ _ _ (by show k ≠ w.heap.size; omega)]
      · exact ((HB.out.setCell (by simp) _).setCell (by simp) _).setCell (by simp) _

end Go.Proofs.Ytfeonaocmnpkcaa

/-
  Words and braids equal as braids, of the program.
-/
namespace Go.Proofs.Ytfeonaocmnpkcaa
set_option linter.unusedVariables false
set_option linter.unusedSimpArgs false
open Go.RowKit

theorem RdNF.below {n : Nat} {w w' : World} {v : Value} {s : St} (h : RdNF n w w.heap.size v s) (hb : Below w.heap.size w w') : RdNF n w' w'.heap.size v s := by
  obtain ⟨u, rfl, hu⟩ := h
  exact ⟨u, rfl, (hu.below hb).more hb.size⟩
theorem eqW_of {n : Nat} {a b : List Int} {s t : St} (ha : LetsN n a) (hb : LetsN n b) (hs : IsNF n a s) (ht : IsNF n b t) : eqW n a b = @decide (s = t) (Classical.propDecidable _) := by
  rw [nfw_eq ha hs, nfw_eq hb ht]
  rfl

set_option maxHeartbeats 2000000 in
set_option maxRecDepth 100000 in
theorem equalWords_any (n : Nat) (hn : n ≤ 12) (a b : List Int) (ha : LetsN n a) (hb : LetsN n b) (hal : a.length ≤ 2000) (hbl : b.length ≤ 2000) (u v : Value) (w : World) (hu : RdI w w.heap.size u a) (hv : RdI w w.heap.size v b) :
    Calls Try.prog 57 #[.int .i64 (n : Int), u, v] w fun e w' => e = .returned (.bool (eqW n a b)) ∧ Below w.heap.size w w' := by
  have HQ1 := Lib.hid (normalOf_any n hn a ha (by omega) u w hu)
  have HQ2 := Lib.hid (fun w1 (h : Below w.heap.size w w1) => normalOf_any n hn b hb (by omega) v w1 ((hv.below h).more h.size))
  have HA := Lib.hid ha
  have HB := Lib.hid hb
  obtain ⟨A, c, rfl⟩ := hu.len
  obtain ⟨A', c', rfl⟩ := hv.len
  clear hu hv ha hb
  go_enter Try.func57, Try.ntmps57
  go_wp2_with fail
  refine HQ1.out.mono ?_
  rintro e w1 ⟨s, x, rfl, hx, hs, hb1⟩
  have HB1 := Lib.hid hb1
  have HX := Lib.hid hx
  have HS := Lib.hid hs
  obtain ⟨x', rfl, -⟩ := hx
  clear hb1 hs
  go_wp2_with fail
  refine (HQ2.out _ HB1.out).mono ?_
  rintro e w2 ⟨t, y, rfl, hy, ht, hb2⟩
  have HB2 := Lib.hid (HB1.out.trans (hb2.mono HB1.out.size))
  have HY := Lib.hid hy
  have HT := Lib.hid ht
  have HE := Lib.hid (eqW_of HA.out HB.out HS.out ht)
  have HQ3 := Lib.hid (sameNormal_any n _ _ s t w2 (HX.out.below hb2) hy (HS.out.val HA.out).on (ht.val HB.out).on)
  obtain ⟨y', rfl, -⟩ := hy
  clear hb2 ht
  go_wp2_with fail
  refine HQ3.out.mono ?_
  rintro e w3 ⟨rfl, hb3⟩
  have HB3 := Lib.hid (HB2.out.trans (hb3.mono HB2.out.size))
  clear hb3
  go_wp2
  go_ret
  exact ⟨ret_bool HE.out.symm, HB3.out⟩

end Go.Proofs.Ytfeonaocmnpkcaa

/-
  The blocks of events, of the program.
-/
namespace Go.Proofs.Ytfeonaocmnpkcaa
set_option linter.unusedVariables false
set_option linter.unusedSimpArgs false
open Go.RowKit

theorem info_blk : (Try.prog.info? 33).map (fun i => (i.zero, i.size, i.bytes)) = some (some (.agg #[.int .i64 0, .slice none 0 0, .slice none 0 0]), 3, 56) := by kernel_rfl
def GivesBl (w : World) (l : List Ev) (e : Ending) (w' : World) : Prop := ∃ v, e = .returned (.tuple #[v, .int .i64 (bksC l)]) ∧ OwBl w' w.heap.size w'.heap.size v (bksL l) ∧ Below w.heap.size w w'
theorem GivesBl.no {w w' : World} {l : List Ev} (h : bksL l = [] ∧ bksC l = 5) (hb : Below w.heap.size w w') : GivesBl w l (.returned (.tuple #[.slice none 0 0, .int .i64 5])) w' := by
  refine ⟨_, by rw [h.2], ?_, hb⟩
  rw [h.1]
  exact OwBl.nil hb.size

set_option maxHeartbeats 8000000 in
set_option maxRecDepth 100000 in
theorem blocks_any (v : Value) (l : List Ev) (w : World) (hl : RdE w w.heap.size v l) (hok : okEvs l = true) :
    Calls Try.prog 40 #[v] w (GivesBl w l) := by
  obtain ⟨hcnt, hN⟩ := okEvs_cnt' hok
  obtain ⟨A, N, c, rfl, hln, hl', gl⟩ := hl
  have HL := Lib.hid gl
  have HLN := Lib.hid hl'.out
  have hN2 : N ≤ 2000 := by have := hl'.out; omega
  generalize hR : bkGo 0 [] [⟨⟨0, []⟩, []⟩] l = R
  have HNO := Lib.hid (fun (h : R = none) => bks_none (bkO_none hR h))
  have HMA := Lib.hid (fun (n : Int) (word : List Int) (o : List Bk) (k : Nat) (h : R = bkGo n word o (l.drop k)) (hl : 60 < o.length) => bks_none (bkO_many hR h hl))
  have HYES := Lib.hid (fun (o : List Bk) (h : R = some o) (ho : o.length ≤ 60) => bks_some (bkO_some hR h ho))
  have HR0 := Lib.hid (show R = bkGo 0 (red []) [⟨⟨0, []⟩, []⟩] (l.drop 0) by rw [← hR]; rfl)
  have HCN := Lib.hid hcnt
  obtain ⟨i0, hi, hz0, hz1, hz2⟩ := info_parts info_int
  obtain ⟨ib, hib, hb0, hb1, hb2⟩ := info_parts info_blk
  obtain ⟨ie, hie, he0, he1, he2⟩ := info_parts info_ev
  have HST : Hid (∃ S xs, Bld (Spot.none_ 61 6) ((w.alloc (.cells #[.int .i64 0, .slice none 0 0, .slice none 0 0] 33)).alloc (.cells #[] 2)) w.heap.size (.slice (some ⟨w.heap.size, 0, none⟩) 1 1) (.slice (some ⟨w.heap.size + 1, 0, none⟩) 0 0) [⟨⟨0, []⟩, []⟩] [] S xs) := by
    obtain ⟨S, h⟩ := Bld.start (w := w.alloc (.cells #[.int .i64 0, .slice none 0 0, .slice none 0 0] 33)) (B := w.heap.size) (v := .slice (some ⟨w.heap.size, 0, none⟩) 1 1)
      ⟨rfl, .inr ⟨w.heap.size, 1, _, rfl, Nat.le_refl _, heap_alloc_new _ _, Nat.le_refl _, by unfold maxLen; omega, rfl, rfl⟩⟩
    obtain ⟨S', h'⟩ := h.newWord (u' := .slice (some ⟨w.heap.size + 1, 0, none⟩) 0 0) (word' := []) (w' := (w.alloc (.cells #[.int .i64 0, .slice none 0 0, .slice none 0 0] 33)).alloc (.cells #[] 2)) (by simp) ((Below.refl _ _).alloc (Nat.le_refl _) _)
      (by have := World.ownsRow_made (base := (w.alloc (.cells #[.int .i64 0, .slice none 0 0, .slice none 0 0] 33)).heap.size) (e := 2) (size := 1) (w.alloc (.cells #[.int .i64 0, .slice none 0 0, .slice none 0 0] 33)) #[] 0 (Nat.le_refl _) (by unfold maxLen; omega) rfl; simpa [vI] using this)
    exact ⟨S', _, h'⟩
  have HB0 := Lib.hid (show Below w.heap.size w ((w.alloc (.cells #[.int .i64 0, .slice none 0 0, .slice none 0 0] 33)).alloc (.cells #[] 2)) from ((Below.refl _ _).alloc (Nat.le_refl _) _).alloc (by simp) _)
  clear hl' gl hcnt hok hN
  clear hR
  go_enter Try.func40, Try.ntmps40
  go_wp2
  go_loopw [4, 5, 6, 7] (fun v nn u i wr => ∃ (k : Nat) (m : Int) (H : List Bk) (wd : List Int), k ≤ N + 1 ∧ i = .int .i64 k ∧ nn = .int .i64 m ∧ 0 ≤ m ∧ m ≤ 12 ∧ 0 < H.length ∧ H.length ≤ 60 ∧ wd.length ≤ k ∧ Hid (∃ S xs, Bld (Spot.none_ 61 6) wr w.heap.size v u H wd S xs) ∧ Hid (LetsN m.toNat wd) ∧ Hid (∀ x ∈ H, x.e.length ≤ k) ∧
    Hid (k ≤ N → R = bkGo m (red wd) H (l.drop k) ∧ (cntE m (l.drop k)).isSome = true) ∧ Hid (N < k → R = some H) ∧ Hid (Below w.heap.size w wr)) (fun _ _ _ i _ => N + 1 - (intOf i).toNat)
  case atStart => exact ⟨0, 0, [⟨⟨0, []⟩, []⟩], [], by omega, rfl, rfl, by omega, by omega, by simp, by simp, Nat.le_refl _, HST.out, LetsN.nil _, by simp [Hid], fun _ => ⟨HR0.out, HCN.out⟩, fun h => absurd h (by omega), HB0.out⟩
  case round =>
    rename_i wr
    obtain ⟨k, m, H, wd, hk, rfl, rfl, m0, m1, hH0, hH60, hwk, HBL0, HLW, HEL0, HR0', HRE, HB⟩ := hrel
    obtain ⟨S0, xs0, hbl0⟩ := HBL0.out
    obtain ⟨Au, cu, rfl⟩ := own_shape hbl0.wordRow
    obtain ⟨Av, cv, rfl⟩ := own_shape hbl0.row
    by_cases hkN : k ≤ N
    · obtain ⟨hr1, hcn1⟩ := HR0'.out hkN
      have HR1 := Lib.hid hr1
      have HCN1 := Lib.hid hcn1
      have hwsz := HB.out.size
      clear hr1 hcn1 HR0' HRE HST HR0 HB0 HCN
      by_cases hx1 : k < N ∧ ∃ x, l[k]? = some x ∧ x.k = 1
      · -- a crossing
        obtain ⟨hlt, x, hlx, hxk⟩ := hx1
        obtain ⟨b, off, x', rfl, hbb, hlk, hcc⟩ := HL.out k hlt
        have hxx : x' = x := by rw [hlk] at hlx; injection hlx
        subst hxx
        obtain ⟨hv, ha, hcn2⟩ := cnt_at HCN1.out hlk
        obtain ⟨hltr, hp0, hp1, hc1⟩ := letE_ltr m1 hv hxk
        obtain ⟨hw1, hw2⟩ := letX_rng m1 hv hxk
        have haf : aftE m x' = m := by simp [aftE, hxk]
        rw [haf] at hcn2
        have HNX := Lib.hid (bk_cross HR1.out hlk hxk)
        have HCN2 := Lib.hid hcn2
        have HLW2 := Lib.hid (HLW.out.snoc hltr)
        have hcw := hcc.below HB.out hbb
        have HO := Lib.hid hbl0.wordRow
        have HAP := Lib.hid (fun (w' : World) (u' : Value) h1 h2 h3 => (hbl0.alloc (.cells #[.int .i64 (letX x')] 2)).drew.letter (w' := w') (u' := u') (x := letX x') h1 h2 h3)
        obtain ⟨c0, c1, c2, -, -, -⟩ := hcw.six
        have hk1 : (x'.k == 1) = true := by simp [hxk]
        have hog : ∀ g, (Value.slice Au wd.length cu).ownBlock = some g → w.heap.size ≤ g := fun g hg => (HO.out.lt g hg).1
        have HRED := Lib.hid (red_snoc wd (letX x'))
        clear hcw hcc hlk hlx hv ha haf hcn2 hltr hbl0 hxk hc1
        go_wp2_with fail
        go_region_law ((refine step_append_lies _ (by rfl) _ _ _ (by rfl) w.heap.size 2 i0 _ 1 8 Try.underlying22 hi hz0 hz1 hz2 rfl (by omega) (.slice Au wd.length cu) wd.length (vI wd) (by rfl) ((HO.out.alloc _).drew) ⟨wr.heap.size, 0, none⟩ 1 1 [.int .i64 (letX x')] (by rfl) (by rfl) (World.news_of_block (cs := #[.int .i64 (letX x')]) (t := 2) (fr := (0, 0)) (heap_alloc_new wr _)) (by simp [Value.oneCell']) (by omega) (by unfold maxLen; omega) (by omega) (by simp; omega) (wr.heap.size + 1) (by simp) ?_; intro gg cap w3 hown3 hgrow hat hlt3))
        all_goals
          (have HL3 := Lib.hid (HAP.out w3 _ hown3 hgrow (hat.elim (fun h => .inl h.symm) (fun h => .inr (by rw [h]; simp [Value.ownBlock]))))
           have HB3 := Lib.hid (((HB.out.alloc hwsz (.cells #[.int .i64 (letX x')] 2)).drew).grown hgrow (by simp; omega) hog)
           clear hown3 hgrow hat hlt3 c0 c1 c2
           go_wp2
           refine ⟨⟨k + 1, m, H, wd ++ [letX x'], by omega, by go_num, rfl, m0, m1, hH0, hH60, by simp; omega, ?_, HLW2.out, fun x hx => by have := HEL0.out x hx; omega, fun _ => ⟨by rw [HRED.out]; exact HNX.out, HCN2.out⟩, fun h => absurd h (by omega), HB3.out⟩, by simp [intOf]; omega⟩
           obtain ⟨S3, h3⟩ := HL3.out
           exact ⟨S3, _, h3⟩)
      · have hx2 : ∀ x, l[k]? = some x → x.k ≠ 1 := fun x hx hk1 => by
          by_cases hlt : k < N
          · exact hx1 ⟨hlt, x, hx, hk1⟩
          · have := (List.getElem?_eq_some_iff.1 hx).1; have := HLN.out; omega
        have HX2 := Lib.hid hx2
        clear hx1 hx2
        have hbd := HLW.out.bd (n := m.toNat) (by omega)
        have HQR := Lib.hid (reduced_any _ wd wr (RdI.of_own (OwC.of_own hbl0.wordRow)) hbd (by omega))
        have HBL1 := Lib.hid hbl0
        have hrl := red_len wd
        have HLR := Lib.hid HLW.out.red
        have hmn : ((m.toNat : Nat) : Int) = m := by omega
        have HQE := fun (v1 : Value) (w1 : World) (hv1 : RdI w1 w1.heap.size v1 (red wd)) => equalWords_any m.toNat (by omega) (red wd) [] HLR.out (LetsN.nil _) (by omega) (by simp) v1 (.slice none 0 0) w1 hv1 ⟨none, 0, 0, rfl, by omega, rfl, fun k hk => absurd hk (by omega)⟩
        rw [hmn] at HQE
        have HQE' := Lib.hid HQE
        clear HQE hbl0 hbd HLW hmn
        generalize hred : red wd = rw at *
        have HRED := Lib.hid hred
        clear hred
        by_cases hlt : k < N
        · obtain ⟨b, off, x, rfl, hbb, hlk, hcc⟩ := HL.out k hlt
          obtain ⟨hv, ha, hcn2⟩ := cnt_at HCN1.out hlk
          have hab := aft_bounds m0 m1 hv
          have HAFT := Lib.hid (show 0 ≤ aftE m x ∧ aftE m x ≤ 12 ∧ _ from ⟨hab.1, ha, hcn2⟩)
          have HVX := Lib.hid hv
          have HXK := Lib.hid (HX2.out x hlk)
          have hk1 : (x.k == 1) = false := by have := HXK.out; simpa using this
          have HLK := Lib.hid hlk
          have HCX := Lib.hid hcc
          obtain ⟨c0, -, -, -, -, -⟩ := (hcc.below HB.out hbb).six
          clear hv ha hcn2 hab hlk hcc
          -- a braid closes
          go_wp2_with fail
          refine HQR.out.mono ?_
          rintro e w1 ⟨v1, rfl, ho1, hb1⟩
          have HBB1 := Lib.hid (HB.out.trans (hb1.mono hwsz))
          have HBN1 : Hid (∃ S xs, Bld (Spot.none_ 61 6) w1 w.heap.size (.slice Av H.length cv) v1 H rw S xs) := by
            obtain ⟨S1, h1⟩ := HBL1.out.newWord hwsz hb1 ho1
            exact ⟨S1, _, h1⟩
          have HRD1 := Lib.hid ((RdI.of_own (OwC.of_own ho1)))
          obtain ⟨A1, cc1, rfl⟩ := own_shape ho1
          have zz1 := HBB1.out.size
          clear ho1 hb1 HQR HBL1
          by_cases h40 : 40 < rw.length
          · have HE := Lib.hid (HNO.out (bk_none HR1.out (fun e he => HX2.out e he) (clB_full h40)))
            have h40' : (40 : Int) < (rw.length : Int) := by omega
            go_wp2
            go_ret2
            exact GivesBl.no HE.out HBB1.out
          have h40' : ¬ (40 : Int) < (rw.length : Int) := by omega
          by_cases hr0 : rw = []
          · have HCL : Hid (clB m rw H = some H) := by unfold Hid; rw [hr0]; exact clB_nil m H
            have hrl0 : rw.length = 0 := by rw [hr0]; rfl
            have HBL : Hid (∃ (So : Nat → Spot) (xso : List Value), Bld (Spot.none_ 61 6) w1 w.heap.size (.slice Av H.length cv) (.slice A1 rw.length cc1) H rw So xso) := HBN1.out
            have HRW := Lib.hid hr0
            have HRL := Lib.hid hrl0
            rw [hrl0]
            clear hr0 hrl0 h40' h40 HBN1 HRD1
            obtain ⟨o, rfl⟩ : ∃ x, x = H := ⟨_, rfl⟩
            obtain ⟨Ao, rfl⟩ : ∃ x, x = Av := ⟨_, rfl⟩
            obtain ⟨co, rfl⟩ : ∃ x, x = cv := ⟨_, rfl⟩
            obtain ⟨wq, rfl⟩ : ∃ x, x = w1 := ⟨_, rfl⟩
            obtain ⟨ho0, ho60⟩ := And.intro hH0 hH60
            have HBQ := HBB1
            have HEL := HEL0
            -- the tail of a round of blocks: a stitch behind the last block
            obtain ⟨So, xso, hbo⟩ := HBL.out
            obtain ⟨Sn, hbn⟩ := hbo.noWord
            obtain ⟨q, hq⟩ : ∃ q, o.length = q + 1 := ⟨o.length - 1, by omega⟩
            obtain ⟨go, cap, y, t, hv, hgo0, hgo1, hy, hty, hto, hct, hfz, htg, hnc⟩ := hbn.last ho0
            injection hv with hv1 hv2 hv3
            subst hv1
            rw [← hv3] at hnc
            clear hv3
            have hyl : y.e.length ≤ 2001 := by have := HEL.out y (List.mem_of_getElem? hy); omega
            have hcq := HCX.out.below HBQ.out hbb
            obtain ⟨c0, c1, c2, c3, c4, c5⟩ := hcq.six
            have HCQ := Lib.hid hcq
            have hblt : b < wq.heap.size := Nat.lt_of_lt_of_le hbb HBQ.out.size
            have hbg : b ≠ go := by omega
            have htb : ∀ g, t.ownBlock = some g → w.heap.size ≤ g := fun g hg => (hto.lt g hg).1
            have htn : t.ownBlock ≠ some b := fun e => by have := htb _ e; omega
            have HTO := Lib.hid hto
            have HBN := Lib.hid hbn
            have HAP := Lib.hid (fun (w' : World) (t' : Value) h1 h2 h3 => (hbn.alloc (.cells #[.int .i64 x.k, .int .i64 x.p, .int .i64 x.c, .int .i64 x.b, .int .i64 x.y, .int .i64 x.d] 61)).drew.stitch (w' := w') (t' := t') (e := x) ho0 hy hty h1 h2 h3)
            have HALEN := Lib.hid (addE_len o x)
            have HRN := Lib.hid (bk_some (HR1.out) HLK.out HXK.out HCL.out)
            have HEL2 := Lib.hid (addE_elen (e := x) HEL.out)
            simp only [hq, Nat.add_sub_cancel] at hct HAP HALEN hnc ⊢
            have hfq := hfz (q * 3 + 2)
            have hq60 : q + 1 ≤ 60 := by omega
            clear hbo hbn hto hcq hv2 hy hty HBL HEL ho0 ho60
            generalize y.e.length = yl at *
            go_wp2_with fail
            go_region_law ((refine step_append_lies _ (by rfl) _ _ _ (by rfl) w.heap.size 61 ie _ 6 48 Try.underlying31 hie he0 he1 he2 rfl (by omega) t yl (vE y.e) (by rfl) ((HTO.out.alloc _).drew) ⟨wq.heap.size, 0, none⟩ 1 1 x.cells (by rfl) (by rfl) (World.news_of_block (cs := #[.int .i64 x.k, .int .i64 x.p, .int .i64 x.c, .int .i64 x.b, .int .i64 x.y, .int .i64 x.d]) (t := 61) (fr := (0, 0)) (heap_alloc_new wq _)) (by simp [Value.oneCell']) (by omega) (by unfold maxLen; omega) (by omega) (by have := HBQ.out.size; simp; omega) (wq.heap.size + 1) (by simp) ?_; intro gg cap3 w3 hown3 hgrow hat hlt; have y13 : w3.cell? ⟨go, q * 3 + 2, none⟩ = some t := (hgrow.cell_far ⟨go, q * 3 + 2, none⟩ (by simp; omega) (Ne.symm htg)).trans ((((Below.refl wq.heap.size wq).alloc (Nat.le_refl _) _).cell (p := ⟨go, q * 3 + 2, none⟩) hgo1).trans hct); have f13 : w3.frozen? ⟨go, q * 3 + 2, none⟩ = false := (hgrow.frozen_far ⟨go, q * 3 + 2, none⟩ (by simp; omega) (Ne.symm htg)).trans ((((Below.refl wq.heap.size wq).alloc (Nat.le_refl _) _).frozen (p := ⟨go, q * 3 + 2, none⟩) hgo1).trans hfq)))
            all_goals
              (have HS3 := Lib.hid (HAP.out w3 (.slice (some ⟨gg, 0, none⟩) (yl + 1) cap3) hown3 hgrow (hat.elim (fun h => .inl h.symm) (fun h => .inr (by rw [h]; simp [Value.ownBlock]))))
               have HB3 := Lib.hid ((((HBQ.out.alloc HBQ.out.size (.cells #[.int .i64 x.k, .int .i64 x.p, .int .i64 x.c, .int .i64 x.b, .int .i64 x.y, .int .i64 x.d] 61)).drew).grown hgrow (by have := HBQ.out.size; simp; omega) htb).setCell (p := ⟨go, q * 3 + 2, none⟩) hgo0 (.slice (some ⟨gg, 0, none⟩) (yl + 1) cap3))
               obtain ⟨d0, d1, d2, d3, d4, d5⟩ := (HCX.out.below HB3.out hbb).six
               have HQA := Lib.hid (after_any x m m0 m1 HVX.out (w3.setCell ⟨go, q * 3 + 2, none⟩ (.slice (some ⟨gg, 0, none⟩) (yl + 1) cap3)))
               clear hown3 hgrow hat hlt y13 f13 hct c0 c1 c2 c3 c4 c5
               go_wp2_with fail
               refine HQA.out.mono ?_
               rintro e w5 ⟨rfl, hb5⟩
               have HB5 := Lib.hid (HB3.out.trans (hb5.mono HB3.out.size))
               have HS5 : Hid (∃ S xs, Bld (Spot.none_ 61 6) w5 w.heap.size (.slice (some ⟨go, 0, none⟩) (addE o x).length co) (.slice none 0 0) (addE o x) [] S xs) := by
                 obtain ⟨S5, xs5, h5⟩ := HS3.out
                 rw [HALEN.out]
                 exact ⟨S5, xs5, h5.below hb5⟩
               clear hb5 d0 d1 d2 d3 d4 d5
               rw [HALEN.out] at HS5
               go_wp2
               exact ⟨⟨k + 1, aftE m x, addE o x, [], by omega, by go_num, rfl, HAFT.out.1, HAFT.out.2.1, by rw [HALEN.out]; omega, by rw [HALEN.out]; omega, by simp, HS5.out, LetsN.nil _, HEL2.out, fun _ => ⟨HRN.out, HAFT.out.2.2⟩, fun h => absurd h (by omega), HB5.out⟩, by simp [intOf]; omega⟩)
          have hrp : 0 < rw.length := List.length_pos_iff.2 hr0
          have hrp' : (0 : Int) < (rw.length : Int) := by omega
          have HHQ := Lib.hid (HQE'.out _ w1 HRD1.out)
          clear hr0
          cases hE : eqW m.toNat rw []
          · have HCL0 := Lib.hid (clB_push (o := H) h40 hE)
            rw [hE] at HHQ
            clear hE
            have hol : (H ++ [⟨⟨m, rw⟩, []⟩] : List Bk).length = H.length + 1 := by simp
            by_cases h60 : H.length = 60
            · have HE := Lib.hid (show bksL l = [] ∧ bksC l = 5 from by
                by_cases hkl : k < N
                · have hlx : l[k]? = some (l[k]'(by have := HLN.out; omega)) := List.getElem?_eq_getElem _
                  exact HMA.out _ _ _ _ (bk_some HR1.out hlx (HX2.out _ hlx) HCL0.out) (by rw [addE_len]; omega)
                · have hre := (bk_end HR1.out (by have := HLN.out; omega)).trans HCL0.out
                  exact HMA.out m [] _ l.length (by rw [List.drop_length, bkGo, clB_nil]; exact hre) (by omega))
              clear hol
              go_wp2_with fail
              refine HHQ.out.mono ?_
              rintro e w2 ⟨rfl, hb2⟩
              have HBB2 := Lib.hid (HBB1.out.trans (hb2.mono zz1))
              clear hb2
              go_wp2
              go_ret2
              exact GivesBl.no HE.out HBB2.out
            · have h60' : ((H.length : Int) == 60) = false := by simp; omega
              have ho60 : H.length + 1 ≤ 60 := by omega
              have HEL := Lib.hid (clB_elen HCL0.out HEL0.out)
              obtain ⟨Sb, xsb, hbb1⟩ := HBN1.out
              have HBN2 := Lib.hid hbb1
              clear h60 hbb1 HBN1
              go_wp2_with fail
              refine HHQ.out.mono ?_
              rintro e w2 ⟨rfl, hb2⟩
              have HBB2 := Lib.hid (HBB1.out.trans (hb2.mono zz1))
              have HBN3 := Lib.hid (HBN2.out.below hb2)
              have HROW := Lib.hid HBN3.out.row
              have zz2 := HBB2.out.size
              clear hb2
              go_wp2_with (at_builtin; refine wpList_append_own_at _ rfl _ _ 37 rfl w.heap.size 33 ib _ 3 56 Try.underlying37 hib hb0 hb1 hb2 rfl (by decide) _ _ _ rfl (HROW.out.alloc _) ⟨w2.heap.size, 0, none⟩ 1 1 [.int .i64 m, .slice A1 rw.length cc1, .slice none 0 0] rfl rfl ?c1 ?c2 ?c3 ?c4 ?c5 ?_)
              case c1 => exact new_cells' _ _ rfl
              case c2 => intro u hu; simp at hu; rcases hu with rfl | rfl | rfl <;> rfl
              case c3 => unfold maxLen; omega
              case c4 => omega
              case c5 => simp; omega
              intro v3 w3 hown3 hg3 _ hat3
              have HBL0 := Lib.hid ((HBN3.out.alloc (.cells #[.int .i64 m, .slice A1 rw.length cc1, .slice none 0 0] 33)).push (n := m) hown3 hg3 (by simpa using hat3))
              have HBQ := Lib.hid ((HBB2.out.alloc zz2 (.cells #[.int .i64 m, .slice A1 rw.length cc1, .slice none 0 0] 33)).grown hg3 (by simp; omega) (fun g hg => (HROW.out.lt g hg).1))
              clear hown3 hg3 hat3 HROW HBN3 HBN2 h60'
              obtain ⟨wq, rfl⟩ : ∃ x, x = w3 := ⟨_, rfl⟩
              generalize hoe : (H ++ [⟨⟨m, rw⟩, []⟩] : List Bk) = o at *
              clear hoe
              have ho0 : 0 < o.length := by omega
              rw [← hol] at ho60
              obtain ⟨Ao, co, rfl⟩ : ∃ Ao co, v3 = .slice Ao o.length co := by
                obtain ⟨S3, h3⟩ := HBL0.out
                exact own_shape h3.row
              have HCL := HCL0
              have HBL : Hid (∃ (So : Nat → Spot) (xso : List Value), Bld (Spot.none_ 61 6) wq w.heap.size (.slice Ao o.length co) (.slice none 0 0) o [] So xso) := by
                obtain ⟨S3, h3⟩ := HBL0.out
                exact ⟨S3, _, h3⟩
              clear HBL0 hol h40' h40
              -- the tail of a round of blocks: a stitch behind the last block
              obtain ⟨So, xso, hbo⟩ := HBL.out
              obtain ⟨Sn, hbn⟩ := hbo.noWord
              obtain ⟨q, hq⟩ : ∃ q, o.length = q + 1 := ⟨o.length - 1, by omega⟩
              obtain ⟨go, cap, y, t, hv, hgo0, hgo1, hy, hty, hto, hct, hfz, htg, hnc⟩ := hbn.last ho0
              injection hv with hv1 hv2 hv3
              subst hv1
              rw [← hv3] at hnc
              clear hv3
              have hyl : y.e.length ≤ 2001 := by have := HEL.out y (List.mem_of_getElem? hy); omega
              have hcq := HCX.out.below HBQ.out hbb
              obtain ⟨c0, c1, c2, c3, c4, c5⟩ := hcq.six
              have HCQ := Lib.hid hcq
              have hblt : b < wq.heap.size := Nat.lt_of_lt_of_le hbb HBQ.out.size
              have hbg : b ≠ go := by omega
              have htb : ∀ g, t.ownBlock = some g → w.heap.size ≤ g := fun g hg => (hto.lt g hg).1
              have htn : t.ownBlock ≠ some b := fun e => by have := htb _ e; omega
              have HTO := Lib.hid hto
              have HBN := Lib.hid hbn
              have HAP := Lib.hid (fun (w' : World) (t' : Value) h1 h2 h3 => (hbn.alloc (.cells #[.int .i64 x.k, .int .i64 x.p, .int .i64 x.c, .int .i64 x.b, .int .i64 x.y, .int .i64 x.d] 61)).drew.stitch (w' := w') (t' := t') (e := x) ho0 hy hty h1 h2 h3)
              have HALEN := Lib.hid (addE_len o x)
              have HRN := Lib.hid (bk_some (HR1.out) HLK.out HXK.out HCL.out)
              have HEL2 := Lib.hid (addE_elen (e := x) HEL.out)
              simp only [hq, Nat.add_sub_cancel] at hct HAP HALEN hnc ⊢
              have hfq := hfz (q * 3 + 2)
              have hq60 : q + 1 ≤ 60 := by omega
              clear hbo hbn hto hcq hv2 hy hty HBL HEL ho0 ho60
              generalize y.e.length = yl at *
              go_wp2_with fail
              go_region_law ((refine step_append_lies _ (by rfl) _ _ _ (by rfl) w.heap.size 61 ie _ 6 48 Try.underlying31 hie he0 he1 he2 rfl (by omega) t yl (vE y.e) (by rfl) ((HTO.out.alloc _).drew) ⟨wq.heap.size, 0, none⟩ 1 1 x.cells (by rfl) (by rfl) (World.news_of_block (cs := #[.int .i64 x.k, .int .i64 x.p, .int .i64 x.c, .int .i64 x.b, .int .i64 x.y, .int .i64 x.d]) (t := 61) (fr := (0, 0)) (heap_alloc_new wq _)) (by simp [Value.oneCell']) (by omega) (by unfold maxLen; omega) (by omega) (by have := HBQ.out.size; simp; omega) (wq.heap.size + 1) (by simp) ?_; intro gg cap3 w3 hown3 hgrow hat hlt; have y13 : w3.cell? ⟨go, q * 3 + 2, none⟩ = some t := (hgrow.cell_far ⟨go, q * 3 + 2, none⟩ (by simp; omega) (Ne.symm htg)).trans ((((Below.refl wq.heap.size wq).alloc (Nat.le_refl _) _).cell (p := ⟨go, q * 3 + 2, none⟩) hgo1).trans hct); have f13 : w3.frozen? ⟨go, q * 3 + 2, none⟩ = false := (hgrow.frozen_far ⟨go, q * 3 + 2, none⟩ (by simp; omega) (Ne.symm htg)).trans ((((Below.refl wq.heap.size wq).alloc (Nat.le_refl _) _).frozen (p := ⟨go, q * 3 + 2, none⟩) hgo1).trans hfq)))
              all_goals
                (have HS3 := Lib.hid (HAP.out w3 (.slice (some ⟨gg, 0, none⟩) (yl + 1) cap3) hown3 hgrow (hat.elim (fun h => .inl h.symm) (fun h => .inr (by rw [h]; simp [Value.ownBlock]))))
                 have HB3 := Lib.hid ((((HBQ.out.alloc HBQ.out.size (.cells #[.int .i64 x.k, .int .i64 x.p, .int .i64 x.c, .int .i64 x.b, .int .i64 x.y, .int .i64 x.d] 61)).drew).grown hgrow (by have := HBQ.out.size; simp; omega) htb).setCell (p := ⟨go, q * 3 + 2, none⟩) hgo0 (.slice (some ⟨gg, 0, none⟩) (yl + 1) cap3))
                 obtain ⟨d0, d1, d2, d3, d4, d5⟩ := (HCX.out.below HB3.out hbb).six
                 have HQA := Lib.hid (after_any x m m0 m1 HVX.out (w3.setCell ⟨go, q * 3 + 2, none⟩ (.slice (some ⟨gg, 0, none⟩) (yl + 1) cap3)))
                 clear hown3 hgrow hat hlt y13 f13 hct c0 c1 c2 c3 c4 c5
                 go_wp2_with fail
                 refine HQA.out.mono ?_
                 rintro e w5 ⟨rfl, hb5⟩
                 have HB5 := Lib.hid (HB3.out.trans (hb5.mono HB3.out.size))
                 have HS5 : Hid (∃ S xs, Bld (Spot.none_ 61 6) w5 w.heap.size (.slice (some ⟨go, 0, none⟩) (addE o x).length co) (.slice none 0 0) (addE o x) [] S xs) := by
                   obtain ⟨S5, xs5, h5⟩ := HS3.out
                   rw [HALEN.out]
                   exact ⟨S5, xs5, h5.below hb5⟩
                 clear hb5 d0 d1 d2 d3 d4 d5
                 rw [HALEN.out] at HS5
                 go_wp2
                 exact ⟨⟨k + 1, aftE m x, addE o x, [], by omega, by go_num, rfl, HAFT.out.1, HAFT.out.2.1, by rw [HALEN.out]; omega, by rw [HALEN.out]; omega, by simp, HS5.out, LetsN.nil _, HEL2.out, fun _ => ⟨HRN.out, HAFT.out.2.2⟩, fun h => absurd h (by omega), HB5.out⟩, by simp [intOf]; omega⟩)
          · have HCL := Lib.hid (clB_triv (o := H) h40 hE)
            rw [hE] at HHQ
            clear hE
            have HBL0 := HBN1
            clear HBN1
            go_wp2_with fail
            refine HHQ.out.mono ?_
            rintro e w2 ⟨rfl, hb2⟩
            have HBQ := Lib.hid (HBB1.out.trans (hb2.mono zz1))
            have HBL : Hid (∃ (So : Nat → Spot) (xso : List Value), Bld (Spot.none_ 61 6) w2 w.heap.size (.slice Av H.length cv) (.slice A1 rw.length cc1) H rw So xso) := by
              obtain ⟨S3, xs3, h3⟩ := HBL0.out
              exact ⟨S3, xs3, h3.below hb2⟩
            clear hb2 HBL0 h40' h40
            obtain ⟨o, rfl⟩ : ∃ x, x = H := ⟨_, rfl⟩
            obtain ⟨Ao, rfl⟩ : ∃ x, x = Av := ⟨_, rfl⟩
            obtain ⟨co, rfl⟩ : ∃ x, x = cv := ⟨_, rfl⟩
            obtain ⟨wq, rfl⟩ : ∃ x, x = w2 := ⟨_, rfl⟩
            obtain ⟨ho0, ho60⟩ := And.intro hH0 hH60
            have HEL := HEL0
            -- the tail of a round of blocks: a stitch behind the last block
            obtain ⟨So, xso, hbo⟩ := HBL.out
            obtain ⟨Sn, hbn⟩ := hbo.noWord
            obtain ⟨q, hq⟩ : ∃ q, o.length = q + 1 := ⟨o.length - 1, by omega⟩
            obtain ⟨go, cap, y, t, hv, hgo0, hgo1, hy, hty, hto, hct, hfz, htg, hnc⟩ := hbn.last ho0
            injection hv with hv1 hv2 hv3
            subst hv1
            rw [← hv3] at hnc
            clear hv3
            have hyl : y.e.length ≤ 2001 := by have := HEL.out y (List.mem_of_getElem? hy); omega
            have hcq := HCX.out.below HBQ.out hbb
            obtain ⟨c0, c1, c2, c3, c4, c5⟩ := hcq.six
            have HCQ := Lib.hid hcq
            have hblt : b < wq.heap.size := Nat.lt_of_lt_of_le hbb HBQ.out.size
            have hbg : b ≠ go := by omega
            have htb : ∀ g, t.ownBlock = some g → w.heap.size ≤ g := fun g hg => (hto.lt g hg).1
            have htn : t.ownBlock ≠ some b := fun e => by have := htb _ e; omega
            have HTO := Lib.hid hto
            have HBN := Lib.hid hbn
            have HAP := Lib.hid (fun (w' : World) (t' : Value) h1 h2 h3 => (hbn.alloc (.cells #[.int .i64 x.k, .int .i64 x.p, .int .i64 x.c, .int .i64 x.b, .int .i64 x.y, .int .i64 x.d] 61)).drew.stitch (w' := w') (t' := t') (e := x) ho0 hy hty h1 h2 h3)
            have HALEN := Lib.hid (addE_len o x)
            have HRN := Lib.hid (bk_some (HR1.out) HLK.out HXK.out HCL.out)
            have HEL2 := Lib.hid (addE_elen (e := x) HEL.out)
            simp only [hq, Nat.add_sub_cancel] at hct HAP HALEN hnc ⊢
            have hfq := hfz (q * 3 + 2)
            have hq60 : q + 1 ≤ 60 := by omega
            clear hbo hbn hto hcq hv2 hy hty HBL HEL ho0 ho60
            generalize y.e.length = yl at *
            go_wp2_with fail
            go_region_law ((refine step_append_lies _ (by rfl) _ _ _ (by rfl) w.heap.size 61 ie _ 6 48 Try.underlying31 hie he0 he1 he2 rfl (by omega) t yl (vE y.e) (by rfl) ((HTO.out.alloc _).drew) ⟨wq.heap.size, 0, none⟩ 1 1 x.cells (by rfl) (by rfl) (World.news_of_block (cs := #[.int .i64 x.k, .int .i64 x.p, .int .i64 x.c, .int .i64 x.b, .int .i64 x.y, .int .i64 x.d]) (t := 61) (fr := (0, 0)) (heap_alloc_new wq _)) (by simp [Value.oneCell']) (by omega) (by unfold maxLen; omega) (by omega) (by have := HBQ.out.size; simp; omega) (wq.heap.size + 1) (by simp) ?_; intro gg cap3 w3 hown3 hgrow hat hlt; have y13 : w3.cell? ⟨go, q * 3 + 2, none⟩ = some t := (hgrow.cell_far ⟨go, q * 3 + 2, none⟩ (by simp; omega) (Ne.symm htg)).trans ((((Below.refl wq.heap.size wq).alloc (Nat.le_refl _) _).cell (p := ⟨go, q * 3 + 2, none⟩) hgo1).trans hct); have f13 : w3.frozen? ⟨go, q * 3 + 2, none⟩ = false := (hgrow.frozen_far ⟨go, q * 3 + 2, none⟩ (by simp; omega) (Ne.symm htg)).trans ((((Below.refl wq.heap.size wq).alloc (Nat.le_refl _) _).frozen (p := ⟨go, q * 3 + 2, none⟩) hgo1).trans hfq)))
            all_goals
              (have HS3 := Lib.hid (HAP.out w3 (.slice (some ⟨gg, 0, none⟩) (yl + 1) cap3) hown3 hgrow (hat.elim (fun h => .inl h.symm) (fun h => .inr (by rw [h]; simp [Value.ownBlock]))))
               have HB3 := Lib.hid ((((HBQ.out.alloc HBQ.out.size (.cells #[.int .i64 x.k, .int .i64 x.p, .int .i64 x.c, .int .i64 x.b, .int .i64 x.y, .int .i64 x.d] 61)).drew).grown hgrow (by have := HBQ.out.size; simp; omega) htb).setCell (p := ⟨go, q * 3 + 2, none⟩) hgo0 (.slice (some ⟨gg, 0, none⟩) (yl + 1) cap3))
               obtain ⟨d0, d1, d2, d3, d4, d5⟩ := (HCX.out.below HB3.out hbb).six
               have HQA := Lib.hid (after_any x m m0 m1 HVX.out (w3.setCell ⟨go, q * 3 + 2, none⟩ (.slice (some ⟨gg, 0, none⟩) (yl + 1) cap3)))
               clear hown3 hgrow hat hlt y13 f13 hct c0 c1 c2 c3 c4 c5
               go_wp2_with fail
               refine HQA.out.mono ?_
               rintro e w5 ⟨rfl, hb5⟩
               have HB5 := Lib.hid (HB3.out.trans (hb5.mono HB3.out.size))
               have HS5 : Hid (∃ S xs, Bld (Spot.none_ 61 6) w5 w.heap.size (.slice (some ⟨go, 0, none⟩) (addE o x).length co) (.slice none 0 0) (addE o x) [] S xs) := by
                 obtain ⟨S5, xs5, h5⟩ := HS3.out
                 rw [HALEN.out]
                 exact ⟨S5, xs5, h5.below hb5⟩
               clear hb5 d0 d1 d2 d3 d4 d5
               rw [HALEN.out] at HS5
               go_wp2
               exact ⟨⟨k + 1, aftE m x, addE o x, [], by omega, by go_num, rfl, HAFT.out.1, HAFT.out.2.1, by rw [HALEN.out]; omega, by rw [HALEN.out]; omega, by simp, HS5.out, LetsN.nil _, HEL2.out, fun _ => ⟨HRN.out, HAFT.out.2.2⟩, fun h => absurd h (by omega), HB5.out⟩, by simp [intOf]; omega⟩)
        · skip
          -- a braid closes
          go_wp2_with fail
          refine HQR.out.mono ?_
          rintro e w1 ⟨v1, rfl, ho1, hb1⟩
          have HBB1 := Lib.hid (HB.out.trans (hb1.mono hwsz))
          have HBN1 : Hid (∃ S xs, Bld (Spot.none_ 61 6) w1 w.heap.size (.slice Av H.length cv) v1 H rw S xs) := by
            obtain ⟨S1, h1⟩ := HBL1.out.newWord hwsz hb1 ho1
            exact ⟨S1, _, h1⟩
          have HRD1 := Lib.hid ((RdI.of_own (OwC.of_own ho1)))
          obtain ⟨A1, cc1, rfl⟩ := own_shape ho1
          have zz1 := HBB1.out.size
          clear ho1 hb1 HQR HBL1
          by_cases h40 : 40 < rw.length
          · have HE := Lib.hid (HNO.out (bk_none HR1.out (fun e he => HX2.out e he) (clB_full h40)))
            have h40' : (40 : Int) < (rw.length : Int) := by omega
            go_wp2
            go_ret2
            exact GivesBl.no HE.out HBB1.out
          have h40' : ¬ (40 : Int) < (rw.length : Int) := by omega
          by_cases hr0 : rw = []
          · have HCL : Hid (clB m rw H = some H) := by unfold Hid; rw [hr0]; exact clB_nil m H
            have hrl0 : rw.length = 0 := by rw [hr0]; rfl
            have HBL : Hid (∃ (So : Nat → Spot) (xso : List Value), Bld (Spot.none_ 61 6) w1 w.heap.size (.slice Av H.length cv) (.slice A1 rw.length cc1) H rw So xso) := HBN1.out
            have HRW := Lib.hid hr0
            have HRL := Lib.hid hrl0
            rw [hrl0]
            clear hr0 hrl0 h40' h40 HBN1 HRD1
            obtain ⟨o, rfl⟩ : ∃ x, x = H := ⟨_, rfl⟩
            obtain ⟨Ao, rfl⟩ : ∃ x, x = Av := ⟨_, rfl⟩
            obtain ⟨co, rfl⟩ : ∃ x, x = cv := ⟨_, rfl⟩
            obtain ⟨wq, rfl⟩ : ∃ x, x = w1 := ⟨_, rfl⟩
            obtain ⟨ho0, ho60⟩ := And.intro hH0 hH60
            have HBQ := HBB1
            have HEL := HEL0
            -- the end of the last round of blocks
            have HS5 : Hid (∃ S xs, Bld (Spot.none_ 61 6) wq w.heap.size (.slice Ao o.length co) (.slice none 0 0) o [] S xs) := by
              obtain ⟨So, xso, hbo⟩ := HBL.out
              obtain ⟨Sn, hbn⟩ := hbo.noWord
              exact ⟨Sn, xso, hbn⟩
            have HRN := Lib.hid (show R = some o from (bk_end HR1.out (by rw [HLN.out]; omega)).trans HCL.out)
            go_wp2
            exact ⟨⟨k + 1, m, o, [], by omega, by go_num, rfl, m0, m1, ho0, ho60, by simp, HS5.out, LetsN.nil _, fun x hx => by have := HEL.out x hx; omega, fun h => absurd h (by omega), fun _ => HRN.out, HBQ.out⟩, by simp [intOf]; omega⟩
          have hrp : 0 < rw.length := List.length_pos_iff.2 hr0
          have hrp' : (0 : Int) < (rw.length : Int) := by omega
          have HHQ := Lib.hid (HQE'.out _ w1 HRD1.out)
          clear hr0
          cases hE : eqW m.toNat rw []
          · have HCL0 := Lib.hid (clB_push (o := H) h40 hE)
            rw [hE] at HHQ
            clear hE
            have hol : (H ++ [⟨⟨m, rw⟩, []⟩] : List Bk).length = H.length + 1 := by simp
            by_cases h60 : H.length = 60
            · have HE := Lib.hid (show bksL l = [] ∧ bksC l = 5 from by
                by_cases hkl : k < N
                · have hlx : l[k]? = some (l[k]'(by have := HLN.out; omega)) := List.getElem?_eq_getElem _
                  exact HMA.out _ _ _ _ (bk_some HR1.out hlx (HX2.out _ hlx) HCL0.out) (by rw [addE_len]; omega)
                · have hre := (bk_end HR1.out (by have := HLN.out; omega)).trans HCL0.out
                  exact HMA.out m [] _ l.length (by rw [List.drop_length, bkGo, clB_nil]; exact hre) (by omega))
              clear hol
              go_wp2_with fail
              refine HHQ.out.mono ?_
              rintro e w2 ⟨rfl, hb2⟩
              have HBB2 := Lib.hid (HBB1.out.trans (hb2.mono zz1))
              clear hb2
              go_wp2
              go_ret2
              exact GivesBl.no HE.out HBB2.out
            · have h60' : ((H.length : Int) == 60) = false := by simp; omega
              have ho60 : H.length + 1 ≤ 60 := by omega
              have HEL := Lib.hid (clB_elen HCL0.out HEL0.out)
              obtain ⟨Sb, xsb, hbb1⟩ := HBN1.out
              have HBN2 := Lib.hid hbb1
              clear h60 hbb1 HBN1
              go_wp2_with fail
              refine HHQ.out.mono ?_
              rintro e w2 ⟨rfl, hb2⟩
              have HBB2 := Lib.hid (HBB1.out.trans (hb2.mono zz1))
              have HBN3 := Lib.hid (HBN2.out.below hb2)
              have HROW := Lib.hid HBN3.out.row
              have zz2 := HBB2.out.size
              clear hb2
              go_wp2_with (at_builtin; refine wpList_append_own_at _ rfl _ _ 37 rfl w.heap.size 33 ib _ 3 56 Try.underlying37 hib hb0 hb1 hb2 rfl (by decide) _ _ _ rfl (HROW.out.alloc _) ⟨w2.heap.size, 0, none⟩ 1 1 [.int .i64 m, .slice A1 rw.length cc1, .slice none 0 0] rfl rfl ?c1 ?c2 ?c3 ?c4 ?c5 ?_)
              case c1 => exact new_cells' _ _ rfl
              case c2 => intro u hu; simp at hu; rcases hu with rfl | rfl | rfl <;> rfl
              case c3 => unfold maxLen; omega
              case c4 => omega
              case c5 => simp; omega
              intro v3 w3 hown3 hg3 _ hat3
              have HBL0 := Lib.hid ((HBN3.out.alloc (.cells #[.int .i64 m, .slice A1 rw.length cc1, .slice none 0 0] 33)).push (n := m) hown3 hg3 (by simpa using hat3))
              have HBQ := Lib.hid ((HBB2.out.alloc zz2 (.cells #[.int .i64 m, .slice A1 rw.length cc1, .slice none 0 0] 33)).grown hg3 (by simp; omega) (fun g hg => (HROW.out.lt g hg).1))
              clear hown3 hg3 hat3 HROW HBN3 HBN2 h60'
              obtain ⟨wq, rfl⟩ : ∃ x, x = w3 := ⟨_, rfl⟩
              generalize hoe : (H ++ [⟨⟨m, rw⟩, []⟩] : List Bk) = o at *
              clear hoe
              have ho0 : 0 < o.length := by omega
              rw [← hol] at ho60
              obtain ⟨Ao, co, rfl⟩ : ∃ Ao co, v3 = .slice Ao o.length co := by
                obtain ⟨S3, h3⟩ := HBL0.out
                exact own_shape h3.row
              have HCL := HCL0
              have HBL : Hid (∃ (So : Nat → Spot) (xso : List Value), Bld (Spot.none_ 61 6) wq w.heap.size (.slice Ao o.length co) (.slice none 0 0) o [] So xso) := by
                obtain ⟨S3, h3⟩ := HBL0.out
                exact ⟨S3, _, h3⟩
              clear HBL0 hol h40' h40
              -- the end of the last round of blocks
              have HS5 : Hid (∃ S xs, Bld (Spot.none_ 61 6) wq w.heap.size (.slice Ao o.length co) (.slice none 0 0) o [] S xs) := by
                obtain ⟨So, xso, hbo⟩ := HBL.out
                obtain ⟨Sn, hbn⟩ := hbo.noWord
                exact ⟨Sn, xso, hbn⟩
              have HRN := Lib.hid (show R = some o from (bk_end HR1.out (by rw [HLN.out]; omega)).trans HCL.out)
              go_wp2
              exact ⟨⟨k + 1, m, o, [], by omega, by go_num, rfl, m0, m1, ho0, ho60, by simp, HS5.out, LetsN.nil _, fun x hx => by have := HEL.out x hx; omega, fun h => absurd h (by omega), fun _ => HRN.out, HBQ.out⟩, by simp [intOf]; omega⟩
          · have HCL := Lib.hid (clB_triv (o := H) h40 hE)
            rw [hE] at HHQ
            clear hE
            have HBL0 := HBN1
            clear HBN1
            go_wp2_with fail
            refine HHQ.out.mono ?_
            rintro e w2 ⟨rfl, hb2⟩
            have HBQ := Lib.hid (HBB1.out.trans (hb2.mono zz1))
            have HBL : Hid (∃ (So : Nat → Spot) (xso : List Value), Bld (Spot.none_ 61 6) w2 w.heap.size (.slice Av H.length cv) (.slice A1 rw.length cc1) H rw So xso) := by
              obtain ⟨S3, xs3, h3⟩ := HBL0.out
              exact ⟨S3, xs3, h3.below hb2⟩
            clear hb2 HBL0 h40' h40
            obtain ⟨o, rfl⟩ : ∃ x, x = H := ⟨_, rfl⟩
            obtain ⟨Ao, rfl⟩ : ∃ x, x = Av := ⟨_, rfl⟩
            obtain ⟨co, rfl⟩ : ∃ x, x = cv := ⟨_, rfl⟩
            obtain ⟨wq, rfl⟩ : ∃ x, x = w2 := ⟨_, rfl⟩
            obtain ⟨ho0, ho60⟩ := And.intro hH0 hH60
            have HEL := HEL0
            -- the end of the last round of blocks
            have HS5 : Hid (∃ S xs, Bld (Spot.none_ 61 6) wq w.heap.size (.slice Ao o.length co) (.slice none 0 0) o [] S xs) := by
              obtain ⟨So, xso, hbo⟩ := HBL.out
              obtain ⟨Sn, hbn⟩ := hbo.noWord
              exact ⟨Sn, xso, hbn⟩
            have HRN := Lib.hid (show R = some o from (bk_end HR1.out (by rw [HLN.out]; omega)).trans HCL.out)
            go_wp2
            exact ⟨⟨k + 1, m, o, [], by omega, by go_num, rfl, m0, m1, ho0, ho60, by simp, HS5.out, LetsN.nil _, fun x hx => by have := HEL.out x hx; omega, fun h => absurd h (by omega), fun _ => HRN.out, HBQ.out⟩, by simp [intOf]; omega⟩
    · have hkN1 : k = N + 1 := by omega
      have HRS := Lib.hid (HYES.out H (HRE.out (by omega)) hH60)
      have HOW := Lib.hid (hbl0.own HB.out.size)
      clear hbl0
      go_wp2
      go_ret2
      refine ⟨_, (by rw [HRS.out.2]; rfl), ?_, HB.out⟩
      rw [HRS.out.1]
      exact HOW.out

end Go.Proofs.Ytfeonaocmnpkcaa

/-
  The blocks of events, of the reference.
-/
namespace Go.Proofs.Ytfeonaocmnpkcaa
set_option linter.unusedVariables false
set_option linter.unusedSimpArgs false
open Go.RowKit

/-- The event of the round, as a row of one element. -/
def evLoc (g : Nat) (x : Ev) : Spot := ⟨61, 6, .slice (some ⟨g, 0, none⟩) 1 1, 1, x.cells⟩
theorem own_at {w : World} {B g : Nat} {x : Ev} (h : (evLoc g x).owned w B) : CellsAt w g 0 x.cells := by
  rcases h.2 with ⟨e, _⟩ | ⟨g', cap, cur, e, hb, hh, hn, hc, hs, hx⟩
  · cases e
  · have e' : Value.slice (some ⟨g, 0, none⟩) 1 1 = .slice (some ⟨g', 0, none⟩) 1 cap := e
    injection e' with e1 e2 e3
    injection e1 with e1
    injection e1 with e1 _
    subst e1 e3
    intro j u hu
    have hj : j < 6 := (List.getElem?_eq_some_iff.1 hu).1
    have hx' : cur.toList.take 6 = x.cells := hx
    rw [Nat.zero_add, cell_of_row w g j cur _ (0, 0) hh, ← Array.getElem?_toList, ← hu, ← hx', List.getElem?_take, if_pos hj]
theorem evLoc_new (w : World) (x : Ev) : (evLoc w.heap.size x).owned (w.alloc (.cells #[.int .i64 x.k, .int .i64 x.p, .int .i64 x.c, .int .i64 x.b, .int .i64 x.y, .int .i64 x.d] 61)) w.heap.size :=
  ⟨rfl, .inr ⟨w.heap.size, 1, _, rfl, Nat.le_refl _, heap_alloc_new _ _, Nat.le_refl _, by unfold maxLen; omega, rfl, rfl⟩⟩

set_option maxHeartbeats 8000000 in
set_option maxRecDepth 100000 in
theorem l13Blocks_any (v : Value) (l : List Ev) (w : World) (hl : RdE w w.heap.size v l) (hok : okEvs l = true) :
    Calls Try.prog 37 #[v] w (GivesBl w l) := by
  obtain ⟨hcnt, hN⟩ := okEvs_cnt' hok
  obtain ⟨A, N, c, rfl, hln, hl', gl⟩ := hl
  have HL := Lib.hid gl
  have HLN := Lib.hid hl'.out
  have hN2 : N ≤ 2000 := by have := hl'.out; omega
  generalize hR : bkGo 0 [] [⟨⟨0, []⟩, []⟩] l = R
  have HNO := Lib.hid (fun (h : R = none) => bks_none (bkO_none hR h))
  have HMA := Lib.hid (fun (n : Int) (word : List Int) (o : List Bk) (k : Nat) (h : R = bkGo n word o (l.drop k)) (hl : 60 < o.length) => bks_none (bkO_many hR h hl))
  have HYES := Lib.hid (fun (o : List Bk) (h : R = some o) (ho : o.length ≤ 60) => bks_some (bkO_some hR h ho))
  have HR0 := Lib.hid (show R = bkGo 0 [] [⟨⟨0, []⟩, []⟩] (l.drop 0) by rw [← hR]; rfl)
  have HCN := Lib.hid hcnt
  obtain ⟨i0, hi, hz0, hz1, hz2⟩ := info_parts info_int
  obtain ⟨ib, hib, hb0, hb1, hb2⟩ := info_parts info_blk
  obtain ⟨ie, hie, he0, he1, he2⟩ := info_parts info_ev
  have HST : Hid (∃ L S xs, Bld L ((w.alloc (.cells #[.int .i64 0, .slice none 0 0, .slice none 0 0] 33)).alloc (.cells #[] 2)) w.heap.size (.slice (some ⟨w.heap.size, 0, none⟩) 1 1) (.slice (some ⟨w.heap.size + 1, 0, none⟩) 0 0) [⟨⟨0, []⟩, []⟩] [] S xs) := by
    obtain ⟨S, h⟩ := Bld.start (w := w.alloc (.cells #[.int .i64 0, .slice none 0 0, .slice none 0 0] 33)) (B := w.heap.size) (v := .slice (some ⟨w.heap.size, 0, none⟩) 1 1)
      ⟨rfl, .inr ⟨w.heap.size, 1, _, rfl, Nat.le_refl _, heap_alloc_new _ _, Nat.le_refl _, by unfold maxLen; omega, rfl, rfl⟩⟩
    obtain ⟨S', h'⟩ := h.newWord (u' := .slice (some ⟨w.heap.size + 1, 0, none⟩) 0 0) (word' := []) (w' := (w.alloc (.cells #[.int .i64 0, .slice none 0 0, .slice none 0 0] 33)).alloc (.cells #[] 2)) (by simp) ((Below.refl _ _).alloc (Nat.le_refl _) _)
      (by have := World.ownsRow_made (base := (w.alloc (.cells #[.int .i64 0, .slice none 0 0, .slice none 0 0] 33)).heap.size) (e := 2) (size := 1) (w.alloc (.cells #[.int .i64 0, .slice none 0 0, .slice none 0 0] 33)) #[] 0 (Nat.le_refl _) (by unfold maxLen; omega) rfl; simpa [vI] using this)
    exact ⟨_, S', _, h'⟩
  have HB0 := Lib.hid (show Below w.heap.size w ((w.alloc (.cells #[.int .i64 0, .slice none 0 0, .slice none 0 0] 33)).alloc (.cells #[] 2)) from ((Below.refl _ _).alloc (Nat.le_refl _) _).alloc (by simp) _)
  clear hl' gl hcnt hok hN
  clear hR
  go_enter Try.func37, Try.ntmps37
  go_wp2
  go_loopw [4, 5, 6, 7] (fun v nn u i wr => ∃ (k : Nat) (m : Int) (H : List Bk) (wd : List Int), k ≤ N ∧ i = .int .i64 k ∧ nn = .int .i64 m ∧ 0 ≤ m ∧ m ≤ 12 ∧ 0 < H.length ∧ H.length ≤ k + 1 ∧ wd.length ≤ k ∧ Hid (∃ L S xs, Bld L wr w.heap.size v u H wd S xs) ∧ Hid (LetsN m.toNat wd) ∧ Hid (red wd = wd) ∧ Hid (∀ x ∈ H, x.e.length ≤ k) ∧
    Hid (R = bkGo m wd H (l.drop k)) ∧ Hid ((cntE m (l.drop k)).isSome = true) ∧ Hid (Below w.heap.size w wr)) (fun _ _ _ i _ => N - (intOf i).toNat)
  case atStart => exact ⟨0, 0, [⟨⟨0, []⟩, []⟩], [], by omega, rfl, rfl, by omega, by omega, by simp, by simp, Nat.le_refl _, HST.out, LetsN.nil _, rfl, by simp [Hid], HR0.out, HCN.out, HB0.out⟩
  case round =>
    rename_i wr
    obtain ⟨k, m, H, wd, hk, rfl, rfl, m0, m1, hH0, hHk, hwk, HBL0, HLW, HRW, HEL0, HR1, HCN1, HB⟩ := hrel
    obtain ⟨L0, S0, xs0, hbl0⟩ := HBL0.out
    obtain ⟨Au, cu, rfl⟩ := own_shape hbl0.wordRow
    obtain ⟨Av, cv, rfl⟩ := own_shape hbl0.row
    have hwsz := HB.out.size
    clear HST HR0 HB0 HCN
    have hmn : ((m.toNat : Nat) : Int) = m := by omega
    have HQE := Lib.hid (fun (w1 : World) (hb1 : Below w.heap.size w w1) (hv1 : RdI w1 w1.heap.size (.slice Au wd.length cu) wd) => hmn ▸ l04Equal_any m.toNat (by omega) wd [] HLW.out (LetsN.nil _) (by omega) (by simp) (.slice Au wd.length cu) (.slice none 0 0) w1 hv1 ⟨none, 0, 0, rfl, by omega, rfl, fun k hk => absurd hk (by omega)⟩)
    clear hmn
    by_cases hlt : k < N
    · obtain ⟨b, off, x, rfl, hbb, hlk, hcc⟩ := HL.out k hlt
      obtain ⟨hv, ha, hcn2⟩ := cnt_at HCN1.out hlk
      obtain ⟨c0, c1, c2, c3, c4, c5⟩ := (hcc.below HB.out hbb).six
      obtain ⟨S1, hbl1⟩ := hbl0.loc (L' := evLoc wr.heap.size x) hwsz ((Below.refl wr.heap.size wr).alloc (Nat.le_refl _) (.cells #[.int .i64 x.k, .int .i64 x.p, .int .i64 x.c, .int .i64 x.b, .int .i64 x.y, .int .i64 x.d] 61)) (evLoc_new wr x)
      by_cases hxk : x.k = 1
      · obtain ⟨hltr, hp0, hp1, hc1⟩ := letE_ltr m1 hv hxk
        obtain ⟨hw1, hw2⟩ := letX_rng m1 hv hxk
        have haf : aftE m x = m := by simp [aftE, hxk]
        rw [haf] at hcn2
        have HNX := Lib.hid (bk_cross HR1.out hlk hxk)
        have HCN2 := Lib.hid hcn2
        have hlw2 := HLW.out.snoc hltr
        have HLW2 := Lib.hid (HLW.out.redS hltr)
        have hbd := hlw2.bd (n := m.toNat) (by omega)
        have HBD := Lib.hid hbd
        obtain ⟨hr1, hr2⟩ := red_step HRW.out (letX x)
        have HR2 := Lib.hid hr2
        have HR3 := Lib.hid hr1
        have HO := Lib.hid hbl1.wordRow
        have HBN := Lib.hid hbl1
        have hk1 : (x.k == 1) = true := by simp [hxk]
        have hrl := redS_len wd (letX x)
        clear hcc hlk hv ha haf hcn2 hltr hbl0 hbl1 hxk hc1 hlw2 hbd hr1 hr2
        go_wp2_with (at_builtin; refine wpList_append_own_at _ rfl _ _ 22 rfl w.heap.size 2 i0 _ 1 8 Try.underlying22 hi hz0 hz1 hz2 rfl (by decide) _ _ _ rfl (HO.out.alloc _) ⟨wr.heap.size + 1, 0, none⟩ 1 1 [.int .i64 (letX x)] rfl rfl ?c1 ?c2 ?c3 ?c4 ?c5 ?_)
        case c1 => exact new_cells' _ _ (by simp)
        case c2 => intro u hu; simp at hu; subst hu; rfl
        case c3 => unfold maxLen; omega
        case c4 => omega
        case c5 => simp; omega
        intro v2 w2 hown2 hg2 _ hat2
        have HB2 := Lib.hid (((HB.out.alloc hwsz (.cells #[.int .i64 x.k, .int .i64 x.p, .int .i64 x.c, .int .i64 x.b, .int .i64 x.y, .int .i64 x.d] 61)).alloc (by simp; omega) (.cells #[.int .i64 (letX x)] 2)).grown hg2 (by simp; omega) (fun g hg => (HO.out.lt g hg).1))
        have HL2 := Lib.hid ((HBN.out.alloc (.cells #[.int .i64 (letX x)] 2)).letter (x := letX x) hown2 hg2 (by simpa using hat2))
        have HOW2 : Hid (w2.ownsRow w.heap.size 2 1 v2 (wd ++ [letX x]).length (vI (wd ++ [letX x]))) := by unfold Hid; rw [vI_snoc', List.length_append]; exact hown2
        have HQR := Lib.hid (l03Reduce_any v2 (wd ++ [letX x]) w2 (RdI.of_own (OwC.of_own HOW2.out)) HBD.out (by simp; omega))
        have zz2 := HB2.out.size
        clear hown2 hg2 hat2 HBN HO c0 c1 c2 c3 c4 c5
        go_wp2_with fail
        refine HQR.out.mono ?_
        rintro e w3 ⟨v3, rfl, ho3, hb3⟩
        have HB3 := Lib.hid (HB2.out.trans (hb3.mono zz2))
        rw [HR3.out] at ho3
        have HL3 : Hid (∃ L S xs, Bld L w3 w.heap.size (.slice Av H.length cv) v3 H (redS wd (letX x)) S xs) := by
          obtain ⟨S2, h2⟩ := HL2.out
          obtain ⟨S3, h3⟩ := h2.newWord zz2 hb3 ho3
          exact ⟨_, S3, _, h3⟩
        clear ho3 hb3
        go_wp2
        exact ⟨⟨k + 1, m, H, redS wd (letX x), by omega, by go_num, rfl, m0, m1, hH0, by omega, by omega, HL3.out, HLW2.out, HR2.out, fun x hx => by have := HEL0.out x hx; omega, HNX.out, HCN2.out, HB3.out⟩, by simp [intOf]; omega⟩
      · have hab := aft_bounds m0 m1 hv
        have HAFT := Lib.hid (show 0 ≤ aftE m x ∧ aftE m x ≤ 12 ∧ _ from ⟨hab.1, ha, hcn2⟩)
        have HVX := Lib.hid hv
        have HXK := Lib.hid hxk
        have hk1 : (x.k == 1) = false := by simpa using hxk
        have HLK := Lib.hid hlk
        have HX2 := Lib.hid (fun (e : Ev) (he : l[k]? = some e) => show e.k ≠ 1 from by rw [hlk] at he; injection he with he; rw [← he]; exact hxk)
        have HBN1 : Hid (∃ (So : Nat → Spot) (xso : List Value), Bld (evLoc wr.heap.size x) (wr.alloc (.cells #[.int .i64 x.k, .int .i64 x.p, .int .i64 x.c, .int .i64 x.b, .int .i64 x.y, .int .i64 x.d] 61)) w.heap.size (.slice Av H.length cv) (.slice Au wd.length cu) H wd So xso) := ⟨_, _, hbl1⟩
        have HBB1 := Lib.hid (HB.out.alloc hwsz (.cells #[.int .i64 x.k, .int .i64 x.p, .int .i64 x.c, .int .i64 x.b, .int .i64 x.y, .int .i64 x.d] 61))
        have HRD1 := Lib.hid (RdI.of_own (OwC.of_own hbl1.wordRow))
        have zz1 := HBB1.out.size
        clear hv ha hcn2 hab hlk hcc hbl0 hbl1 hxk
        -- a braid closes, in the reference
        by_cases h40 : 40 < wd.length
        · have HE := Lib.hid (HNO.out (bk_none HR1.out HX2.out (clB_full h40)))
          have h40' : (40 : Int) < (wd.length : Int) := by omega
          go_wp2
          go_ret2
          exact GivesBl.no HE.out HBB1.out
        have h40' : ¬ (40 : Int) < (wd.length : Int) := by omega
        have HHQ := Lib.hid (HQE.out _ HBB1.out HRD1.out)
        cases hE : eqW m.toNat wd []
        · have HCL := Lib.hid (clB_push (o := H) h40 hE)
          rw [hE] at HHQ
          clear hE
          have hol : (H ++ [⟨⟨m, wd⟩, []⟩] : List Bk).length = H.length + 1 := by simp
          have ho60 : H.length + 1 ≤ k + 2 := by omega
          have HEL := Lib.hid (clB_elen HCL.out HEL0.out)
          go_wp2_with fail
          refine HHQ.out.mono ?_
          rintro e w2 ⟨rfl, hb2⟩
          have HBB2 := Lib.hid (HBB1.out.trans (hb2.mono zz1))
          obtain ⟨S3, xs3, h3⟩ := HBN1.out
          have HBN3 := Lib.hid (h3.below hb2)
          have HROW := Lib.hid HBN3.out.row
          have zz2 := HBB2.out.size
          clear hb2 h3
          go_wp2_with (at_builtin; refine wpList_append_own_at _ rfl _ _ 37 rfl w.heap.size 33 ib _ 3 56 Try.underlying37 hib hb0 hb1 hb2 rfl (by decide) _ _ _ rfl (HROW.out.alloc _) ⟨w2.heap.size, 0, none⟩ 1 1 [.int .i64 m, .slice Au wd.length cu, .slice none 0 0] rfl rfl ?c1 ?c2 ?c3 ?c4 ?c5 ?_)
          case c1 => exact new_cells' _ _ rfl
          case c2 => intro u hu; simp at hu; rcases hu with rfl | rfl | rfl <;> rfl
          case c3 => unfold maxLen; omega
          case c4 => omega
          case c5 => simp; omega
          intro v3 w3 hown3 hg3 _ hat3
          have HBL0 := Lib.hid ((HBN3.out.alloc (.cells #[.int .i64 m, .slice Au wd.length cu, .slice none 0 0] 33)).push (n := m) hown3 hg3 (by simpa using hat3))
          have HBQ := Lib.hid ((HBB2.out.alloc zz2 (.cells #[.int .i64 m, .slice Au wd.length cu, .slice none 0 0] 33)).grown hg3 (by simp; omega) (fun g hg => (HROW.out.lt g hg).1))
          clear hown3 hg3 hat3 HROW HBN3
          obtain ⟨wq, rfl⟩ : ∃ x, x = w3 := ⟨_, rfl⟩
          generalize hoe : (H ++ [⟨⟨m, wd⟩, []⟩] : List Bk) = o at *
          clear hoe
          have ho0 : 0 < o.length := by omega
          rw [← hol] at ho60
          obtain ⟨Ao, co, rfl⟩ : ∃ Ao co, v3 = .slice Ao o.length co := by
            obtain ⟨S3, h3⟩ := HBL0.out
            exact own_shape h3.row
          have HBL : Hid (∃ (So : Nat → Spot) (xso : List Value), Bld (evLoc wr.heap.size x) wq w.heap.size (.slice Ao o.length co) (.slice none 0 0) o [] So xso) := by
            obtain ⟨S3, h3⟩ := HBL0.out
            exact ⟨S3, _, h3⟩
          clear HBL0 hol h40' h40
          -- the tail of a round of the reference's blocks: a stitch behind the last block
          generalize wr.heap.size = ge at *
          obtain ⟨So, xso, hbo⟩ := HBL.out
          have hce := own_at hbo.local_
          have zzq := HBQ.out.size
          have hgeq : w.heap.size ≤ ge ∧ ge < wq.heap.size := hbo.local_.lt ge rfl
          obtain ⟨Sn, hbn⟩ := hbo.newWord (w' := wq.alloc (.cells #[] 2)) (u' := .slice (some ⟨wq.heap.size, 0, none⟩) 0 0) (word' := []) zzq ((Below.refl _ _).alloc (Nat.le_refl _) _) (World.ownsRow_made wq #[] 0 (Nat.le_refl _) (by unfold maxLen; omega) rfl)
          obtain ⟨q, hq⟩ : ∃ q, o.length = q + 1 := ⟨o.length - 1, by omega⟩
          obtain ⟨go, cap, y, t, hv, hgo0, hgo1, hy, hty, hto, hct, hfz, htg, hnc⟩ := hbn.last ho0
          have hte := hbn.local_ne (g := ge) rfl (j := 2 * (o.length - 1) + 3) (by omega) (by omega)
          rw [hty] at hte
          have hte' : t.ownBlock ≠ some ge := hte
          have hgq : go < wq.heap.size := by have := hbo.row.lt go (by rw [hv]; rfl); exact this.2
          have hge : go ≠ ge := fun e => hbn.local_ne (g := ge) rfl (j := 0) (by omega) (by omega) (by rw [hbn.s0]; show (Value.slice _ _ _).ownBlock = _; rw [hv, ← e]; rfl)
          injection hv with hv1 hv2 hv3
          subst hv1
          rw [← hv3] at hnc
          clear hv3 hte
          have hyl : y.e.length ≤ 2001 := by have := HEL.out y (List.mem_of_getElem? hy); omega
          have htb : ∀ g, t.ownBlock = some g → w.heap.size ≤ g := fun g hg => (hto.lt g hg).1
          have HTO := Lib.hid hto
          have HAP := Lib.hid (fun (w' : World) (t' : Value) h1 h2 h3 => (hbn.alloc (.cells #[.int .i64 x.k, .int .i64 x.p, .int .i64 x.c, .int .i64 x.b, .int .i64 x.y, .int .i64 x.d] 61)).drew.stitch (w' := w') (t' := t') (e := x) ho0 hy hty h1 h2 h3)
          have HALEN := Lib.hid (addE_len o x)
          have HRN := Lib.hid (bk_some (HR1.out) HLK.out HXK.out HCL.out)
          have HEL2 := Lib.hid (addE_elen (e := x) HEL.out)
          simp only [hq, Nat.add_sub_cancel] at hct hnc HAP HALEN ⊢
          have hct' : wq.cell? ⟨go, q * 3 + 2, none⟩ = some t := (World.cell?_alloc_lt wq (.cells #[] 2) ⟨go, q * 3 + 2, none⟩ hgq).symm.trans hct
          have hfq := hfz (q * 3 + 2)
          have hfq' : wq.frozen? ⟨go, q * 3 + 2, none⟩ = false := ((((Below.refl wq.heap.size wq).alloc (Nat.le_refl _) (.cells #[] 2)).frozen (p := ⟨go, q * 3 + 2, none⟩) hgq)).symm.trans hfq
          have hq60 : q + 1 ≤ k + 2 := by omega
          obtain ⟨c0, c1, c2, c3, c4, c5⟩ := hce.six
          clear hbo hbn hto hce hv2 hy hty HBL HEL ho0 ho60
          generalize y.e.length = yl at *
          go_wp2_with fail
          go_region_law ((refine step_append_lies _ (by rfl) _ _ _ (by rfl) w.heap.size 61 ie _ 6 48 Try.underlying31 hie he0 he1 he2 rfl (by omega) t yl (vE y.e) (by rfl) ((HTO.out.alloc _).drew) ⟨wq.heap.size + 1, 0, none⟩ 1 1 x.cells (by rfl) (by rfl) (World.news_of_block (cs := #[.int .i64 x.k, .int .i64 x.p, .int .i64 x.c, .int .i64 x.b, .int .i64 x.y, .int .i64 x.d]) (t := 61) (fr := (0, 0)) (by have := heap_alloc_new (wq.alloc (.cells #[] 2)) (.cells #[.int .i64 x.k, .int .i64 x.p, .int .i64 x.c, .int .i64 x.b, .int .i64 x.y, .int .i64 x.d] 61); rw [show (wq.alloc (.cells #[] 2)).heap.size = wq.heap.size + 1 from by simp] at this; exact this)) (by simp [Value.oneCell']) (by omega) (by unfold maxLen; omega) (by omega) (by simp; omega) (wq.heap.size + 1 + 1) (by simp) ?_; intro gg cap3 w3 hown3 hgrow hat hlt; have y13 : w3.cell? ⟨go, q * 3 + 2, none⟩ = some t := (hgrow.cell_far ⟨go, q * 3 + 2, none⟩ (by simp; omega) (Ne.symm htg)).trans ((((Below.refl wq.heap.size wq).alloc (Nat.le_refl _) _).alloc (by simp) _ |>.cell (p := ⟨go, q * 3 + 2, none⟩) hgq).trans hct'); have f13 : w3.frozen? ⟨go, q * 3 + 2, none⟩ = false := (hgrow.frozen_far ⟨go, q * 3 + 2, none⟩ (by simp; omega) (Ne.symm htg)).trans ((((Below.refl wq.heap.size wq).alloc (Nat.le_refl _) _).alloc (by simp) _ |>.frozen (p := ⟨go, q * 3 + 2, none⟩) hgq).trans hfq')))
          all_goals
            (have HS3 := Lib.hid (HAP.out w3 (.slice (some ⟨gg, 0, none⟩) (yl + 1) cap3) hown3 hgrow (hat.elim (fun h => .inl h.symm) (fun h => .inr (by rw [h]; simp [Value.ownBlock]))))
             have HB3 := Lib.hid (((((HBQ.out.alloc zzq (.cells #[] 2)).alloc (by simp; omega) (.cells #[.int .i64 x.k, .int .i64 x.p, .int .i64 x.c, .int .i64 x.b, .int .i64 x.y, .int .i64 x.d] 61)).drew).grown hgrow (by simp; omega) htb).setCell (p := ⟨go, q * 3 + 2, none⟩) hgo0 (.slice (some ⟨gg, 0, none⟩) (yl + 1) cap3))
             have HQA : Hid (Calls Try.prog 59 #[.pointer (some ⟨ge, 0, none⟩), .int .i64 m] (w3.setCell ⟨go, q * 3 + 2, none⟩ (.slice (some ⟨gg, 0, none⟩) (yl + 1) cap3)) (EvRes m x (w3.setCell ⟨go, q * 3 + 2, none⟩ (.slice (some ⟨gg, 0, none⟩) (yl + 1) cap3)))) := by
               obtain ⟨S5, xs5, h5⟩ := HS3.out
               exact l10Event_any x m m0 m1 ge 0 _ (own_at h5.local_)
             clear hown3 hgrow hat hlt y13 f13 hct hct' c0 c1 c2 c3 c4 c5
             go_wp2_with fail
             refine HQA.out.mono ?_
             rintro e w5 ⟨mm, rfl, hmm, hb5⟩
             rw [HVX.out]
             obtain rfl := hmm HVX.out
             have HB5 := Lib.hid (HB3.out.trans (hb5.mono HB3.out.size))
             have HS5 : Hid (∃ L S xs, Bld L w5 w.heap.size (.slice (some ⟨go, 0, none⟩) (addE o x).length co) (.slice (some ⟨wq.heap.size, 0, none⟩) 0 0) (addE o x) [] S xs) := by
               obtain ⟨S5, xs5, h5⟩ := HS3.out
               rw [HALEN.out]
               exact ⟨_, S5, xs5, h5.below hb5⟩
             clear hb5 hmm
             rw [HALEN.out] at HS5
             go_wp2
             exact ⟨⟨k + 1, aftE m x, addE o x, [], by omega, by go_num, rfl, HAFT.out.1, HAFT.out.2.1, by rw [HALEN.out]; omega, by rw [HALEN.out]; omega, by simp, HS5.out, LetsN.nil _, rfl, HEL2.out, HRN.out, HAFT.out.2.2, HB5.out⟩, by simp [intOf]; omega⟩)
        · have HCL := Lib.hid (clB_triv (o := H) h40 hE)
          rw [hE] at HHQ
          clear hE
          have HBL0 := HBN1
          clear HBN1
          go_wp2_with fail
          refine HHQ.out.mono ?_
          rintro e w2 ⟨rfl, hb2⟩
          have HBQ := Lib.hid (HBB1.out.trans (hb2.mono zz1))
          have HBL : Hid (∃ (So : Nat → Spot) (xso : List Value), Bld (evLoc wr.heap.size x) w2 w.heap.size (.slice Av H.length cv) (.slice Au wd.length cu) H wd So xso) := by
            obtain ⟨S3, xs3, h3⟩ := HBL0.out
            exact ⟨S3, xs3, h3.below hb2⟩
          clear hb2 HBL0 h40' h40
          obtain ⟨o, rfl⟩ : ∃ x, x = H := ⟨_, rfl⟩
          obtain ⟨Ao, rfl⟩ : ∃ x, x = Av := ⟨_, rfl⟩
          obtain ⟨co, rfl⟩ : ∃ x, x = cv := ⟨_, rfl⟩
          obtain ⟨wq, rfl⟩ : ∃ x, x = w2 := ⟨_, rfl⟩
          have ho0 := hH0
          have ho60 : o.length ≤ k + 2 := by omega
          have HEL := HEL0
          -- the tail of a round of the reference's blocks: a stitch behind the last block
          generalize wr.heap.size = ge at *
          obtain ⟨So, xso, hbo⟩ := HBL.out
          have hce := own_at hbo.local_
          have zzq := HBQ.out.size
          have hgeq : w.heap.size ≤ ge ∧ ge < wq.heap.size := hbo.local_.lt ge rfl
          obtain ⟨Sn, hbn⟩ := hbo.newWord (w' := wq.alloc (.cells #[] 2)) (u' := .slice (some ⟨wq.heap.size, 0, none⟩) 0 0) (word' := []) zzq ((Below.refl _ _).alloc (Nat.le_refl _) _) (World.ownsRow_made wq #[] 0 (Nat.le_refl _) (by unfold maxLen; omega) rfl)
          obtain ⟨q, hq⟩ : ∃ q, o.length = q + 1 := ⟨o.length - 1, by omega⟩
          obtain ⟨go, cap, y, t, hv, hgo0, hgo1, hy, hty, hto, hct, hfz, htg, hnc⟩ := hbn.last ho0
          have hte := hbn.local_ne (g := ge) rfl (j := 2 * (o.length - 1) + 3) (by omega) (by omega)
          rw [hty] at hte
          have hte' : t.ownBlock ≠ some ge := hte
          have hgq : go < wq.heap.size := by have := hbo.row.lt go (by rw [hv]; rfl); exact this.2
          have hge : go ≠ ge := fun e => hbn.local_ne (g := ge) rfl (j := 0) (by omega) (by omega) (by rw [hbn.s0]; show (Value.slice _ _ _).ownBlock = _; rw [hv, ← e]; rfl)
          injection hv with hv1 hv2 hv3
          subst hv1
          rw [← hv3] at hnc
          clear hv3 hte
          have hyl : y.e.length ≤ 2001 := by have := HEL.out y (List.mem_of_getElem? hy); omega
          have htb : ∀ g, t.ownBlock = some g → w.heap.size ≤ g := fun g hg => (hto.lt g hg).1
          have HTO := Lib.hid hto
          have HAP := Lib.hid (fun (w' : World) (t' : Value) h1 h2 h3 => (hbn.alloc (.cells #[.int .i64 x.k, .int .i64 x.p, .int .i64 x.c, .int .i64 x.b, .int .i64 x.y, .int .i64 x.d] 61)).drew.stitch (w' := w') (t' := t') (e := x) ho0 hy hty h1 h2 h3)
          have HALEN := Lib.hid (addE_len o x)
          have HRN := Lib.hid (bk_some (HR1.out) HLK.out HXK.out HCL.out)
          have HEL2 := Lib.hid (addE_elen (e := x) HEL.out)
          simp only [hq, Nat.add_sub_cancel] at hct hnc HAP HALEN ⊢
          have hct' : wq.cell? ⟨go, q * 3 + 2, none⟩ = some t := (World.cell?_alloc_lt wq (.cells #[] 2) ⟨go, q * 3 + 2, none⟩ hgq).symm.trans hct
          have hfq := hfz (q * 3 + 2)
          have hfq' : wq.frozen? ⟨go, q * 3 + 2, none⟩ = false := ((((Below.refl wq.heap.size wq).alloc (Nat.le_refl _) (.cells #[] 2)).frozen (p := ⟨go, q * 3 + 2, none⟩) hgq)).symm.trans hfq
          have hq60 : q + 1 ≤ k + 2 := by omega
          obtain ⟨c0, c1, c2, c3, c4, c5⟩ := hce.six
          clear hbo hbn hto hce hv2 hy hty HBL HEL ho0 ho60
          generalize y.e.length = yl at *
          go_wp2_with fail
          go_region_law ((refine step_append_lies _ (by rfl) _ _ _ (by rfl) w.heap.size 61 ie _ 6 48 Try.underlying31 hie he0 he1 he2 rfl (by omega) t yl (vE y.e) (by rfl) ((HTO.out.alloc _).drew) ⟨wq.heap.size + 1, 0, none⟩ 1 1 x.cells (by rfl) (by rfl) (World.news_of_block (cs := #[.int .i64 x.k, .int .i64 x.p, .int .i64 x.c, .int .i64 x.b, .int .i64 x.y, .int .i64 x.d]) (t := 61) (fr := (0, 0)) (by have := heap_alloc_new (wq.alloc (.cells #[] 2)) (.cells #[.int .i64 x.k, .int .i64 x.p, .int .i64 x.c, .int .i64 x.b, .int .i64 x.y, .int .i64 x.d] 61); rw [show (wq.alloc (.cells #[] 2)).heap.size = wq.heap.size + 1 from by simp] at this; exact this)) (by simp [Value.oneCell']) (by omega) (by unfold maxLen; omega) (by omega) (by simp; omega) (wq.heap.size + 1 + 1) (by simp) ?_; intro gg cap3 w3 hown3 hgrow hat hlt; have y13 : w3.cell? ⟨go, q * 3 + 2, none⟩ = some t := (hgrow.cell_far ⟨go, q * 3 + 2, none⟩ (by simp; omega) (Ne.symm htg)).trans ((((Below.refl wq.heap.size wq).alloc (Nat.le_refl _) _).alloc (by simp) _ |>.cell (p := ⟨go, q * 3 + 2, none⟩) hgq).trans hct'); have f13 : w3.frozen? ⟨go, q * 3 + 2, none⟩ = false := (hgrow.frozen_far ⟨go, q * 3 + 2, none⟩ (by simp; omega) (Ne.symm htg)).trans ((((Below.refl wq.heap.size wq).alloc (Nat.le_refl _) _).alloc (by simp) _ |>.frozen (p := ⟨go, q * 3 + 2, none⟩) hgq).trans hfq')))
          all_goals
            (have HS3 := Lib.hid (HAP.out w3 (.slice (some ⟨gg, 0, none⟩) (yl + 1) cap3) hown3 hgrow (hat.elim (fun h => .inl h.symm) (fun h => .inr (by rw [h]; simp [Value.ownBlock]))))
             have HB3 := Lib.hid (((((HBQ.out.alloc zzq (.cells #[] 2)).alloc (by simp; omega) (.cells #[.int .i64 x.k, .int .i64 x.p, .int .i64 x.c, .int .i64 x.b, .int .i64 x.y, .int .i64 x.d] 61)).drew).grown hgrow (by simp; omega) htb).setCell (p := ⟨go, q * 3 + 2, none⟩) hgo0 (.slice (some ⟨gg, 0, none⟩) (yl + 1) cap3))
             have HQA : Hid (Calls Try.prog 59 #[.pointer (some ⟨ge, 0, none⟩), .int .i64 m] (w3.setCell ⟨go, q * 3 + 2, none⟩ (.slice (some ⟨gg, 0, none⟩) (yl + 1) cap3)) (EvRes m x (w3.setCell ⟨go, q * 3 + 2, none⟩ (.slice (some ⟨gg, 0, none⟩) (yl + 1) cap3)))) := by
               obtain ⟨S5, xs5, h5⟩ := HS3.out
               exact l10Event_any x m m0 m1 ge 0 _ (own_at h5.local_)
             clear hown3 hgrow hat hlt y13 f13 hct hct' c0 c1 c2 c3 c4 c5
             go_wp2_with fail
             refine HQA.out.mono ?_
             rintro e w5 ⟨mm, rfl, hmm, hb5⟩
             rw [HVX.out]
             obtain rfl := hmm HVX.out
             have HB5 := Lib.hid (HB3.out.trans (hb5.mono HB3.out.size))
             have HS5 : Hid (∃ L S xs, Bld L w5 w.heap.size (.slice (some ⟨go, 0, none⟩) (addE o x).length co) (.slice (some ⟨wq.heap.size, 0, none⟩) 0 0) (addE o x) [] S xs) := by
               obtain ⟨S5, xs5, h5⟩ := HS3.out
               rw [HALEN.out]
               exact ⟨_, S5, xs5, h5.below hb5⟩
             clear hb5 hmm
             rw [HALEN.out] at HS5
             go_wp2
             exact ⟨⟨k + 1, aftE m x, addE o x, [], by omega, by go_num, rfl, HAFT.out.1, HAFT.out.2.1, by rw [HALEN.out]; omega, by rw [HALEN.out]; omega, by simp, HS5.out, LetsN.nil _, rfl, HEL2.out, HRN.out, HAFT.out.2.2, HB5.out⟩, by simp [intOf]; omega⟩)
    · have HX2 := Lib.hid (fun (e : Ev) (he : l[k]? = some e) => show e.k ≠ 1 from absurd (List.getElem?_eq_some_iff.1 he).1 (by have := HLN.out; omega))
      obtain ⟨x, hx⟩ : ∃ x : Ev, x = ⟨0, 0, 0, 0, 0, 0⟩ := ⟨_, rfl⟩
      have HBN1 : Hid (∃ (So : Nat → Spot) (xso : List Value), Bld L0 wr w.heap.size (.slice Av H.length cv) (.slice Au wd.length cu) H wd So xso) := ⟨_, _, hbl0⟩
      have HBB1 := HB
      have HRD1 := Lib.hid (RdI.of_own (OwC.of_own hbl0.wordRow))
      have zz1 := hwsz
      clear hbl0 hx
      -- a braid closes, in the reference
      by_cases h40 : 40 < wd.length
      · have HE := Lib.hid (HNO.out (bk_none HR1.out HX2.out (clB_full h40)))
        have h40' : (40 : Int) < (wd.length : Int) := by omega
        go_wp2
        go_ret2
        exact GivesBl.no HE.out HBB1.out
      have h40' : ¬ (40 : Int) < (wd.length : Int) := by omega
      have HHQ := Lib.hid (HQE.out _ HBB1.out HRD1.out)
      cases hE : eqW m.toNat wd []
      · have HCL := Lib.hid (clB_push (o := H) h40 hE)
        rw [hE] at HHQ
        clear hE
        have hol : (H ++ [⟨⟨m, wd⟩, []⟩] : List Bk).length = H.length + 1 := by simp
        have ho60 : H.length + 1 ≤ k + 2 := by omega
        have HEL := Lib.hid (clB_elen HCL.out HEL0.out)
        go_wp2_with fail
        refine HHQ.out.mono ?_
        rintro e w2 ⟨rfl, hb2⟩
        have HBB2 := Lib.hid (HBB1.out.trans (hb2.mono zz1))
        obtain ⟨S3, xs3, h3⟩ := HBN1.out
        have HBN3 := Lib.hid (h3.below hb2)
        have HROW := Lib.hid HBN3.out.row
        have zz2 := HBB2.out.size
        clear hb2 h3
        go_wp2_with (at_builtin; refine wpList_append_own_at _ rfl _ _ 37 rfl w.heap.size 33 ib _ 3 56 Try.underlying37 hib hb0 hb1 hb2 rfl (by decide) _ _ _ rfl (HROW.out.alloc _) ⟨w2.heap.size, 0, none⟩ 1 1 [.int .i64 m, .slice Au wd.length cu, .slice none 0 0] rfl rfl ?c1 ?c2 ?c3 ?c4 ?c5 ?_)
        case c1 => exact new_cells' _ _ rfl
        case c2 => intro u hu; simp at hu; rcases hu with rfl | rfl | rfl <;> rfl
        case c3 => unfold maxLen; omega
        case c4 => omega
        case c5 => simp; omega
        intro v3 w3 hown3 hg3 _ hat3
        have HBL0 := Lib.hid ((HBN3.out.alloc (.cells #[.int .i64 m, .slice Au wd.length cu, .slice none 0 0] 33)).push (n := m) hown3 hg3 (by simpa using hat3))
        have HBQ := Lib.hid ((HBB2.out.alloc zz2 (.cells #[.int .i64 m, .slice Au wd.length cu, .slice none 0 0] 33)).grown hg3 (by simp; omega) (fun g hg => (HROW.out.lt g hg).1))
        clear hown3 hg3 hat3 HROW HBN3
        obtain ⟨wq, rfl⟩ : ∃ x, x = w3 := ⟨_, rfl⟩
        generalize hoe : (H ++ [⟨⟨m, wd⟩, []⟩] : List Bk) = o at *
        clear hoe
        have ho0 : 0 < o.length := by omega
        rw [← hol] at ho60
        obtain ⟨Ao, co, rfl⟩ : ∃ Ao co, v3 = .slice Ao o.length co := by
          obtain ⟨S3, h3⟩ := HBL0.out
          exact own_shape h3.row
        have HBL : Hid (∃ (So : Nat → Spot) (xso : List Value), Bld L0 wq w.heap.size (.slice Ao o.length co) (.slice none 0 0) o [] So xso) := by
          obtain ⟨S3, h3⟩ := HBL0.out
          exact ⟨S3, _, h3⟩
        clear HBL0 hol h40' h40
        -- the end of the reference's blocks
        obtain ⟨So, xso, hbo⟩ := HBL.out
        have HRE := Lib.hid ((bk_end HR1.out (by have := HLN.out; omega)).trans HCL.out)
        have HOW := Lib.hid (hbo.own HBQ.out.size)
        clear hbo
        by_cases ho60 : 60 < o.length
        · have HE := Lib.hid (HMA.out m [] o l.length (by rw [List.drop_length, bkGo, clB_nil]; exact HRE.out) ho60)
          have ho60' : (60 : Int) < (o.length : Int) := by omega
          go_wp2
          go_ret2
          exact GivesBl.no HE.out HBQ.out
        · have HE := Lib.hid (HYES.out o HRE.out (by omega))
          have ho60' : ¬ (60 : Int) < (o.length : Int) := by omega
          go_wp2
          go_ret2
          refine ⟨_, (by rw [HE.out.2]; rfl), ?_, HBQ.out⟩
          rw [HE.out.1]
          exact HOW.out
      · have HCL := Lib.hid (clB_triv (o := H) h40 hE)
        rw [hE] at HHQ
        clear hE
        have HBL0 := HBN1
        clear HBN1
        go_wp2_with fail
        refine HHQ.out.mono ?_
        rintro e w2 ⟨rfl, hb2⟩
        have HBQ := Lib.hid (HBB1.out.trans (hb2.mono zz1))
        have HBL : Hid (∃ (So : Nat → Spot) (xso : List Value), Bld L0 w2 w.heap.size (.slice Av H.length cv) (.slice Au wd.length cu) H wd So xso) := by
          obtain ⟨S3, xs3, h3⟩ := HBL0.out
          exact ⟨S3, xs3, h3.below hb2⟩
        clear hb2 HBL0 h40' h40
        obtain ⟨o, rfl⟩ : ∃ x, x = H := ⟨_, rfl⟩
        obtain ⟨Ao, rfl⟩ : ∃ x, x = Av := ⟨_, rfl⟩
        obtain ⟨co, rfl⟩ : ∃ x, x = cv := ⟨_, rfl⟩
        obtain ⟨wq, rfl⟩ : ∃ x, x = w2 := ⟨_, rfl⟩
        have ho0 := hH0
        have ho60 : o.length ≤ k + 2 := by omega
        have HEL := HEL0
        -- the end of the reference's blocks
        obtain ⟨So, xso, hbo⟩ := HBL.out
        have HRE := Lib.hid ((bk_end HR1.out (by have := HLN.out; omega)).trans HCL.out)
        have HOW := Lib.hid (hbo.own HBQ.out.size)
        clear hbo
        by_cases ho60 : 60 < o.length
        · have HE := Lib.hid (HMA.out m [] o l.length (by rw [List.drop_length, bkGo, clB_nil]; exact HRE.out) ho60)
          have ho60' : (60 : Int) < (o.length : Int) := by omega
          go_wp2
          go_ret2
          exact GivesBl.no HE.out HBQ.out
        · have HE := Lib.hid (HYES.out o HRE.out (by omega))
          have ho60' : ¬ (60 : Int) < (o.length : Int) := by omega
          go_wp2
          go_ret2
          refine ⟨_, (by rw [HE.out.2]; rfl), ?_, HBQ.out⟩
          rw [HE.out.1]
          exact HOW.out

end Go.Proofs.Ytfeonaocmnpkcaa

/-
  EventsOfBlocks: which lists of blocks are valid.
-/
namespace Go.Proofs.Ytfeonaocmnpkcaa
set_option linter.unusedVariables false
set_option linter.unusedSimpArgs false
open Go.RowKit

/-- One block of a row, with its lengths. -/
theorem RdBks.at2 {w : World} {B : Nat} {A : Option Addr} {n c : Nat} {l : List Bk} (h : RdBks w B (.slice A n c) l) {k : Nat} (hk : k < n) :
    ∃ b off x A0 c0 A1 c1, A = some ⟨b, off, none⟩ ∧ b < B ∧ l[k]? = some x ∧ CellsAt w b (off + k * 3) [.int .i64 x.b.n, .slice A0 x.b.w.length c0, .slice A1 x.e.length c1] ∧ RdI w B (.slice A0 x.b.w.length c0) x.b.w ∧ RdE w B (.slice A1 x.e.length c1) x.e := by
  obtain ⟨b, off, x, A0, n0, c0, A1, n1, c1, h1, h2, h3, h4, h5, h6⟩ := h.at_ hk
  obtain ⟨A2, c2, e2⟩ := h5.len
  obtain ⟨A3, c3, e3⟩ := RdS.lens h6
  injection e2 with a1 a2 a3
  injection e3 with b1 b2 b3
  subst a1 a2 a3 b1 b2 b3
  exact ⟨b, off, x, _, _, _, _, h1, h2, h3, h4, h5, h6⟩

def crossK (e : Ev) : Bool := e.k == 1
def okOne (n : Int) (x : Bk) : Bool := okBr x.b && (decide (x.b.n = n) && (decide (x.e.length ≤ 2000) && !(x.e.any crossK)))
def nextBk (n : Int) (x : Bk) : Option Int := if okOne n x = true then cntE n x.e else none
def blksGo : Int → List Bk → Bool
  | _, [] => true
  | n, x :: xs => match nextBk n x with
    | some m => blksGo m xs
    | none => false
def okBks (l : List Bk) : Bool := decide (l.length ≤ 60) && blksGo 0 l
def stGo : Int → List Ev → Option Int
  | n, [] => some n
  | n, e :: es => if valE n e = true ∧ crossK e = false ∧ aftE n e ≤ 12 then stGo (aftE n e) es else none
theorem stGo_eq : ∀ (l : List Ev) (n : Int), stGo n l = if l.any crossK = true then none else cntE n l
  | [], n => by simp [stGo, cntE]
  | e :: es, n => by
    rw [stGo, cntE, List.any_cons]
    cases hc : crossK e
    · by_cases hv : valE n e = true ∧ aftE n e ≤ 12
      · rw [if_pos ⟨hv.1, rfl, hv.2⟩, stGo_eq es, if_pos hv]
        simp
      · rw [if_neg (fun h => hv ⟨h.1, h.2.2⟩), if_neg hv]
        simp
    · simp
theorem cnt_bounds : ∀ (l : List Ev) (n m : Int), 0 ≤ n → n ≤ 12 → cntE n l = some m → 0 ≤ m ∧ m ≤ 12
  | [], n, m, h0, h1, h => by simp [cntE] at h; omega
  | e :: es, n, m, h0, h1, h => by
    rw [cntE] at h
    split at h
    · rename_i hv
      exact cnt_bounds es _ _ (aft_bounds h0 h1 hv.1).1 hv.2 h
    · cases h
theorem stGo_no {l : List Ev} {k : Nat} {x : Ev} {n m : Int} (h : stGo n l = stGo m (l.drop k)) (hx : l[k]? = some x) (hv : ¬ (valE m x = true ∧ crossK x = false ∧ aftE m x ≤ 12)) : stGo n l = none := by
  rw [h, drop_of_get hx, stGo, if_neg hv]
theorem stGo_yes {l : List Ev} {k : Nat} {x : Ev} {n m : Int} (h : stGo n l = stGo m (l.drop k)) (hx : l[k]? = some x) (hv : valE m x = true ∧ crossK x = false ∧ aftE m x ≤ 12) : stGo n l = stGo (aftE m x) (l.drop (k + 1)) := by
  rw [h, drop_of_get hx, stGo, if_pos hv]
theorem blks_no {R : Bool} {l : List Bk} {k : Nat} {x : Bk} {m : Int} (h : R = blksGo m (l.drop k)) (hx : l[k]? = some x) (hv : nextBk m x = none) : R = false := by
  rw [h, drop_of_get hx, blksGo, hv]
theorem blks_yes {R : Bool} {l : List Bk} {k : Nat} {x : Bk} {m m' : Int} (h : R = blksGo m (l.drop k)) (hx : l[k]? = some x) (hv : nextBk m x = some m') : R = blksGo m' (l.drop (k + 1)) := by
  rw [h, drop_of_get hx, blksGo, hv]
theorem nextBk_no {m : Int} {x : Bk} (h : okOne m x = false) : nextBk m x = none := by simp [nextBk, h]
theorem nextBk_yes {m : Int} {x : Bk} (h : okOne m x = true) : nextBk m x = cntE m x.e := by simp [nextBk, h]
theorem okOne_mk {m : Int} {x : Bk} (h1 : okBr x.b = true) (h2 : x.b.n = m) (h3 : x.e.length ≤ 2000) (h4 : x.e.any crossK = false) : okOne m x = true := by unfold okOne; rw [h1, h4]; simp [h2, h3]
theorem nextBk_st {m : Int} {x : Bk} (h1 : okBr x.b = true) (h2 : x.b.n = m) (h3 : x.e.length ≤ 2000) : nextBk m x = stGo m x.e := by
  rw [stGo_eq]
  unfold nextBk okOne
  rw [h1]
  cases x.e.any crossK <;> simp [h2, h3]




end Go.Proofs.Ytfeonaocmnpkcaa

/-
  EventsOfBlocks of the program and of the reference.
-/
namespace Go.Proofs.Ytfeonaocmnpkcaa
set_option linter.unusedVariables false
set_option linter.unusedSimpArgs false
open Go.RowKit

/-- The events of blocks. -/
def bkE (x : Bk) : List Ev := letsE x.b.w ++ x.e
def evsB (l : List Bk) : List Ev := l.flatMap bkE
/-- Blocks whose events can be listed. -/
structure FitEB (l : List Bk) : Prop where
  len : l.length ≤ 2100
  all : ∀ x ∈ l, Lets x.b.w ∧ x.b.w.length ≤ 40 ∧ x.e.length ≤ 2000
theorem evs_snoc {Y acc : List Ev} {l : List Bk} {k : Nat} {x : Bk} (h : Y = acc ++ evsB (l.drop k)) (hx : l[k]? = some x) : Y = (acc ++ letsE x.b.w) ++ x.e ++ evsB (l.drop (k + 1)) := by
  rw [h, drop_of_get hx]
  simp [evsB, bkE]
theorem vE_append (a b : List Ev) : vE (a ++ b) = vE a ++ vE b := by simp [vS]
theorem vE_one' (l : List Ev) : ∀ u ∈ vE l, u.oneCell' = true := by
  intro u hu
  unfold vE vS at hu
  rw [List.mem_flatMap] at hu
  obtain ⟨x, _, hx⟩ := hu
  simp at hx
  rcases hx with rfl | rfl | rfl | rfl | rfl | rfl <;> rfl
theorem letsE_len (l : List Int) : (letsE l).length = l.length := by simp [letsE]

set_option maxHeartbeats 4000000 in
set_option maxRecDepth 100000 in
theorem l13Events_any (v : Value) (l : List Bk) (w : World) (hl : RdBks w w.heap.size v l) (hf : FitEB l) :
    Calls Try.prog 44 #[v] w (GivesOw w 61 6 (evsB l).length (vE (evsB l))) := by
  obtain ⟨A, cp, rfl⟩ := RdN.shape hl
  obtain ⟨i0, hi, hy0, hy1, hy2⟩ := info_parts info_ev
  have hlen := hf.len
  have HF := Lib.hid hf.all
  clear hf
  have HL := Lib.hid hl
  clear hl
  generalize hln : l.length = n at *
  have HLN := Lib.hid hln
  clear hln
  generalize hY : evsB l = Y
  have HY := Lib.hid (show Y = [] ++ evsB (l.drop 0) by rw [← hY]; rfl)
  clear hY
  go_enter Try.func44, Try.ntmps44
  go_wp2
  go_loopw [3, 4] (fun t i wr => ∃ (k : Nat) (acc : List Ev), k ≤ n ∧ i = .int .i64 k ∧ wr.ownsRow w.heap.size 61 6 t acc.length (vE acc) ∧ acc.length ≤ k * 2040 ∧ Hid (Y = acc ++ evsB (l.drop k)) ∧ Below w.heap.size w wr) (fun _ i _ => n - (intOf i).toNat)
  case atStart => exact ⟨0, [], Nat.zero_le _, rfl, World.ownsRow_lit _ _ _ (Nat.le_refl _) (by unfold maxLen; omega) rfl, Nat.le_refl _, HY.out, (Below.refl _ _).alloc (Nat.le_refl _) _⟩
  case round =>
    rename_i wr
    obtain ⟨k, acc, hk, rfl, hown, hak, hd, hb⟩ := hrel
    by_cases hlt : k < n
    · obtain ⟨b, off, x, A0, c0, A1, c1, rfl, hbb, hlk, hc, hs, ht⟩ := (RdBks.below HL.out hb).at2 hlt
      obtain ⟨e0, e1, e2⟩ := hc.three
      have hsz := hb.size
      obtain ⟨f1, f2, f3⟩ := HF.out x (List.mem_of_getElem? hlk)
      have HF1 := Lib.hid f1
      have HB := Lib.hid hb
      have HD := Lib.hid (evs_snoc hd.out hlk)
      have HS := Lib.hid hs
      have HT := Lib.hid (ht.reads Ev.len (by decide)).1
      have HC := Lib.hid hc
      have HO := Lib.hid hown
      have HLL := Lib.hid (letsE_len x.b.w)
      clear hb hlk hc hs ht f1 hown
      go_wp2_with fail
      refine (l10Letters_any _ x.b.w _ (HS.out.more hsz) HF1.out (by omega)).mono ?_
      rintro e w1 ⟨v1, rfl, ho1, hb1⟩
      obtain ⟨A2, c2, rfl, -⟩ := ho1.cells
      have HR1 := Lib.hid ((RdS.of_own Ev.len ho1).reads Ev.len (by decide)).1
      have HO1 := Lib.hid (own_below HO.out hb1)
      have HB1 := Lib.hid (HB.out.trans (hb1.mono hsz))
      have hz1 := hb1.size
      have hll : (letsE x.b.w).length ≤ 40 := by have := HLL.out; omega
      clear hb1 ho1 e0 e1 e2
      go_wp2_with (at_builtin; refine wpList_append_any _ rfl _ _ _ rfl w.heap.size 61 i0 _ 6 48 Try.underlying31 hi hy0 hy1 hy2 rfl (by decide) _ _ _ rfl HO1.out w1.heap.size A2 (letsE x.b.w).length c2 (vE (letsE x.b.w)) rfl HR1.out (vE_one' _) (by unfold maxLen; omega) (by omega) HB1.out.size ?_)
      intro v2 w2 hown2 hg2 hat2
      have HB2 := Lib.hid (HB1.out.grown hg2 HB1.out.size (fun kk hkk => (HO1.out.lt kk hkk).1))
      have HO2 : Hid (w2.ownsRow w.heap.size 61 6 v2 (acc ++ letsE x.b.w).length (vE (acc ++ letsE x.b.w))) := by unfold Hid; rw [List.length_append, vE_append]; exact hown2
      obtain ⟨e0, e1, e2⟩ := (CellsAt.keep HC.out (fun o => ((HB2.out.cell (p := ⟨b, o, none⟩) hbb).trans (HB.out.cell (p := ⟨b, o, none⟩) hbb).symm))).three
      have HT2 := Lib.hid (show Reads w2 w.heap.size 6 A1 x.e.length (vE x.e) from HT.out.keep fun p hp => (HB2.out.cell hp).trans (HB.out.cell hp).symm)
      clear hown2 hg2 hat2 HO1 HR1
      go_wp2_with (at_builtin; refine wpList_append_any _ rfl _ _ _ rfl w.heap.size 61 i0 _ 6 48 Try.underlying31 hi hy0 hy1 hy2 rfl (by decide) _ _ _ rfl HO2.out w.heap.size A1 x.e.length c1 (vE x.e) rfl HT2.out (vE_one' _) (by rw [List.length_append]; unfold maxLen; omega) (by rw [List.length_append]; omega) HB2.out.size ?_)
      intro v3 w3 hown3 hg3 hat3
      have HB3 := Lib.hid (HB2.out.grown hg3 HB2.out.size (fun kk hkk => (HO2.out.lt kk hkk).1))
      have HO3 : Hid (w3.ownsRow w.heap.size 61 6 v3 (acc ++ letsE x.b.w ++ x.e).length (vE (acc ++ letsE x.b.w ++ x.e))) := by unfold Hid; rw [List.length_append, vE_append, List.length_append]; exact hown3
      clear hown3 hg3 hat3 e0 e1 e2
      go_wp2
      exact ⟨⟨k + 1, acc ++ letsE x.b.w ++ x.e, by omega, by go_num, HO3.out, by rw [List.length_append, List.length_append]; omega, HD.out, HB3.out⟩, by simp [intOf]; omega⟩
    · have HB := Lib.hid hb
      have HO := Lib.hid hown
      have HD := Lib.hid (show Y = acc by rw [hd.out, List.drop_of_length_le (by have := HLN.out; omega)]; simp [evsB])
      clear hb hown hd
      go_wp2
      go_ret
      exact ⟨_, rfl, by rw [HD.out]; exact OwC.of_own HO.out, HB.out⟩

set_option maxHeartbeats 4000000 in
set_option maxRecDepth 100000 in
theorem eventsOf_any (v : Value) (l : List Bk) (w : World) (hl : RdBks w w.heap.size v l) (hf : FitEB l) :
    Calls Try.prog 45 #[v] w (GivesOw w 61 6 (evsB l).length (vE (evsB l))) := by
  obtain ⟨A, cp, rfl⟩ := RdN.shape hl
  obtain ⟨i0, hi, hy0, hy1, hy2⟩ := info_parts info_ev
  have hlen := hf.len
  have HF := Lib.hid hf.all
  clear hf
  have HL := Lib.hid hl
  clear hl
  generalize hln : l.length = n at *
  have HLN := Lib.hid hln
  clear hln
  generalize hY : evsB l = Y
  have HY := Lib.hid (show Y = [] ++ evsB (l.drop 0) by rw [← hY]; rfl)
  clear hY
  go_enter Try.func45, Try.ntmps45
  go_wp2
  go_loopw [3, 9] (fun t i wr => ∃ (k : Nat) (acc : List Ev), k ≤ n ∧ i = .int .i64 k ∧ wr.ownsRow w.heap.size 61 6 t acc.length (vE acc) ∧ acc.length ≤ k * 2040 ∧ Hid (Y = acc ++ evsB (l.drop k)) ∧ Below w.heap.size w wr) (fun _ i _ => n - (intOf i).toNat)
  case atStart => exact ⟨0, [], Nat.zero_le _, rfl, World.ownsRow_lit _ _ _ (Nat.le_refl _) (by unfold maxLen; omega) rfl, Nat.le_refl _, HY.out, (Below.refl _ _).alloc (Nat.le_refl _) _⟩
  case round =>
    rename_i wr
    obtain ⟨k, acc, hk, rfl, hown, hak, hd, hb⟩ := hrel
    by_cases hlt : k < n
    · obtain ⟨b, off, x, A0, c0, A1, c1, rfl, hbb, hlk, hc, hs, ht⟩ := (RdBks.below HL.out hb).at2 hlt
      obtain ⟨e0, e1, e2⟩ := hc.three
      have hsz := hb.size
      obtain ⟨f1, f2, f3⟩ := HF.out x (List.mem_of_getElem? hlk)
      have HF1 := Lib.hid f1
      have HB := Lib.hid hb
      have HD := Lib.hid (evs_snoc hd.out hlk)
      have HS := Lib.hid hs
      have HT := Lib.hid (ht.reads Ev.len (by decide)).1
      have HC := Lib.hid (CellsAt.of_alloc (w := wr) (us := [.int .i64 x.b.n, .slice A0 x.b.w.length c0, .slice A1 x.e.length c1]) (t := 33))
      have HO := Lib.hid hown
      have HLL := Lib.hid (letsE_len x.b.w)
      have HBA := Lib.hid (show Below w.heap.size w (wr.alloc (.cells #[.int .i64 x.b.n, .slice A0 x.b.w.length c0, .slice A1 x.e.length c1] 33)) from HB.out.alloc hsz _)
      clear hb hlk hc hs ht f1 hown
      go_wp2_with fail
      refine (wordEvents_any _ x.b.w _ (HS.out.up ((Below.refl _ _).alloc hsz _) (by simp; omega)) HF1.out (by omega)).mono ?_
      rintro e w1 ⟨v1, rfl, ho1, hb1⟩
      obtain ⟨A2, c2, rfl, -⟩ := ho1.cells
      have HR1 := Lib.hid ((RdS.of_own Ev.len ho1).reads Ev.len (by decide)).1
      have HO1 := Lib.hid (own_below (HO.out.alloc _) hb1)
      have HB1 := Lib.hid (HBA.out.trans (hb1.mono (by simp; omega)))
      have hz1 : wr.heap.size < w1.heap.size := by have := hb1.size; simp at this; omega
      have HY1 := Lib.hid (HC.out.below hb1 (by simp))
      have hll : (letsE x.b.w).length ≤ 40 := by have := HLL.out; omega
      have hrow := Lib.hid (fun kk hkk => (HO.out.lt kk hkk).2)
      clear hb1 ho1 e0 e1 e2
      go_wp2_with (at_builtin; refine wpList_append_any _ rfl _ _ _ rfl w.heap.size 61 i0 _ 6 48 Try.underlying31 hi hy0 hy1 hy2 rfl (by decide) _ _ _ rfl HO1.out w1.heap.size A2 (letsE x.b.w).length c2 (vE (letsE x.b.w)) rfl HR1.out (vE_one' _) (by unfold maxLen; omega) (by omega) HB1.out.size ?_)
      intro v2 w2 hown2 hg2 hat2
      have HB2 := Lib.hid (HB1.out.grown hg2 HB1.out.size (fun kk hkk => (HO1.out.lt kk hkk).1))
      have HO2 : Hid (w2.ownsRow w.heap.size 61 6 v2 (acc ++ letsE x.b.w).length (vE (acc ++ letsE x.b.w))) := by unfold Hid; rw [List.length_append, vE_append]; exact hown2
      obtain ⟨e0, e1, e2⟩ := (HY1.out.keep (fun o => World.cell?_of_block (a := ⟨wr.heap.size, o, none⟩) (hg2.block wr.heap.size hz1 (fun he => by have := hrow.out _ he.symm; omega)))).three
      have HT2 := Lib.hid (show Reads w2 w.heap.size 6 A1 x.e.length (vE x.e) from HT.out.keep fun p hp => (HB2.out.cell hp).trans (HB.out.cell hp).symm)
      clear hown2 hg2 hat2 HO1 HR1
      go_wp2_with (at_builtin; refine wpList_append_any _ rfl _ _ _ rfl w.heap.size 61 i0 _ 6 48 Try.underlying31 hi hy0 hy1 hy2 rfl (by decide) _ _ _ rfl HO2.out w.heap.size A1 x.e.length c1 (vE x.e) rfl HT2.out (vE_one' _) (by rw [List.length_append]; unfold maxLen; omega) (by rw [List.length_append]; omega) HB2.out.size ?_)
      intro v3 w3 hown3 hg3 hat3
      have HB3 := Lib.hid (HB2.out.grown hg3 HB2.out.size (fun kk hkk => (HO2.out.lt kk hkk).1))
      have HO3 : Hid (w3.ownsRow w.heap.size 61 6 v3 (acc ++ letsE x.b.w ++ x.e).length (vE (acc ++ letsE x.b.w ++ x.e))) := by unfold Hid; rw [List.length_append, vE_append, List.length_append]; exact hown3
      clear hown3 hg3 hat3 e0 e1 e2
      go_wp2
      exact ⟨⟨k + 1, acc ++ letsE x.b.w ++ x.e, by omega, by go_num, HO3.out, by rw [List.length_append, List.length_append]; omega, HD.out, HB3.out⟩, by simp [intOf]; omega⟩
    · have HB := Lib.hid hb
      have HO := Lib.hid hown
      have HD := Lib.hid (show Y = acc by rw [hd.out, List.drop_of_length_le (by have := HLN.out; omega)]; simp [evsB])
      clear hb hown hd
      go_wp2
      go_ret
      exact ⟨_, rfl, by rw [HD.out]; exact OwC.of_own HO.out, HB.out⟩

end Go.Proofs.Ytfeonaocmnpkcaa

/-
  BlocksOf and ReduceEvents, of the program and of the reference.
-/
namespace Go.Proofs.Ytfeonaocmnpkcaa
set_option linter.unusedVariables false
set_option linter.unusedSimpArgs false
open Go.RowKit

noncomputable def bkoL (l : List Ev) : List Bk := if okEvs l = true then bksL l else []
noncomputable def bkoC (l : List Ev) : Int := if okEvs l = true then bksC l else 1
theorem bko_no {l : List Ev} (h : okEvs l = false) : bkoL l = [] ∧ bkoC l = 1 := by simp [bkoL, bkoC, h]
theorem bko_yes {l : List Ev} (h : okEvs l = true) : bkoL l = bksL l ∧ bkoC l = bksC l := by simp [bkoL, bkoC, h]
def GivesBo (w : World) (l : List Ev) (e : Ending) (w' : World) : Prop := ∃ v, e = .returned (.tuple #[v, .int .i64 (bkoC l)]) ∧ OwBl w' w.heap.size w'.heap.size v (bkoL l) ∧ Below w.heap.size w w'
theorem GivesBo.no {w w' : World} {l : List Ev} (h : okEvs l = false) (hb : Below w.heap.size w w') : GivesBo w l (.returned (.tuple #[.slice none 0 0, .int .i64 1])) w' := by
  obtain ⟨h1, h2⟩ := bko_no h
  refine ⟨_, by rw [h2], ?_, hb⟩
  rw [h1]
  exact OwBl.nil hb.size
theorem OwBl.wide {w : World} {lo lo' hi : Nat} {v : Value} {l : List Bk} (h : OwBl w lo hi v l) (hl : lo' ≤ lo) : OwBl w lo' hi v l := by
  obtain ⟨a, b, f, h1, h2, h3⟩ := h
  exact ⟨a, b, f, fun j hj => ⟨Nat.le_trans hl (h1 j hj).1, (h1 j hj).2⟩, h2, h3⟩
theorem OwBl.shape {w : World} {lo hi : Nat} {v : Value} {l : List Bk} (h : OwBl w lo hi v l) : ∃ A c, v = .slice A l.length c := by
  obtain ⟨a, b, f, h1, h2, h3, h4⟩ := h
  obtain ⟨A, c, e, _⟩ := h3.cells
  exact ⟨A, c, e⟩
theorem GivesBo.yes {w w1 w' : World} {l : List Ev} {e : Ending} (h : okEvs l = true) (hb : Below w.heap.size w w1) (hg : GivesBl w1 l e w') : GivesBo w l e w' := by
  obtain ⟨h1, h2⟩ := bko_yes h
  obtain ⟨v, rfl, ho, hb'⟩ := hg
  exact ⟨v, by rw [h2], by rw [h1]; exact ho.wide hb.size, hb.trans (hb'.mono hb.size)⟩

set_option maxHeartbeats 1000000 in
theorem implBlocksOf_any (v : Value) (l : List Ev) (w : World) (hl : RdE w w.heap.size v l) : Calls Try.prog 16 #[v] w (GivesBo w l) := by
  have HL := Lib.hid hl
  clear hl
  cases hok : okEvs l
  all_goals
    have HO := Lib.hid hok
    clear hok
    go_enter Try.func16, Try.ntmps16
    go_wp2_with fail
    refine (implValidEvents_any _ l _ _ HL.out (Nat.le_refl _)).mono ?_
    rintro e w1 ⟨rfl, hb1⟩
    rw [HO.out]
    have HB := Lib.hid hb1
    clear hb1
  · go_wp2
    go_ret2
    exact GivesBo.no HO.out HB.out
  · go_wp2_with fail
    refine (blocks_any _ l _ (RdS.more (HL.out.below HB.out) HB.out.size) HO.out).mono ?_
    rintro e w2 hg
    have HG := Lib.hid (GivesBo.yes HO.out HB.out hg)
    obtain ⟨v2, rfl, -, -⟩ := hg
    go_wp2
    go_ret2
    exact HG.out

set_option maxHeartbeats 1000000 in
theorem specBlocksOf_any (v : Value) (l : List Ev) (w : World) (hl : RdE w w.heap.size v l) : Calls Try.prog 14 #[v] w (GivesBo w l) := by
  have HL := Lib.hid hl
  clear hl
  cases hok : okEvs l
  all_goals
    have HO := Lib.hid hok
    clear hok
    go_enter Try.func14, Try.ntmps14
    go_wp2_with fail
    refine (l10Count_any _ l _ _ HL.out (Nat.le_refl _)).mono ?_
    rintro e w1 ⟨rfl, hb1⟩
    rw [HO.out]
    have HB := Lib.hid hb1
    clear hb1
  · go_wp2
    go_ret2
    exact GivesBo.no HO.out HB.out
  · go_wp2_with fail
    refine (l13Blocks_any _ l _ (RdS.more (HL.out.below HB.out) HB.out.size) HO.out).mono ?_
    rintro e w2 hg
    have HG := Lib.hid (GivesBo.yes HO.out HB.out hg)
    obtain ⟨v2, rfl, -, -⟩ := hg
    go_wp2
    go_ret2
    exact HG.out

/-- The blocks of valid events, where there are not too many. -/
theorem good_of {l : List Ev} (h : okEvs l = true) (hc : bksC l = 0) : (∀ x ∈ bksL l, GoodB 2000 x) ∧ (bksL l).length ≤ 60 := by
  cases ho : bkO l with
  | none => rw [(bks_none ho).2] at hc; omega
  | some o =>
    rw [(bks_some ho).1]
    exact good_bks h ho
theorem LetsN.lets {n : Nat} {l : List Int} (h : LetsN n l) (hn : n ≤ 12) : Lets l := fun x hx => by
  obtain ⟨h1, h2⟩ := h x hx
  exact ⟨h1, by omega, by omega⟩
theorem fit_of {l : List Ev} (h : okEvs l = true) (hc : bksC l = 0) : FitEB (bksL l) := by
  obtain ⟨h1, h2⟩ := good_of h hc
  refine ⟨by omega, fun x hx => ?_⟩
  have := h1 x hx
  exact ⟨this.lets.lets (by have := this.n1; omega), this.wl, this.el⟩
theorem bksC_cases (l : List Ev) : bksC l = 0 ∨ bksC l = 5 := by unfold bksC; split <;> simp
theorem bksL_nil {l : List Ev} (h : bksC l = 5) : bksL l = [] := by
  cases ho : bkO l with
  | none => exact (bks_none ho).1
  | some o => rw [(bks_some ho).2] at h; omega

/-- The events of the blocks of events. -/
noncomputable def rdcL (l : List Ev) : List Ev := evsB (bkoL l)
theorem GivesC.no5 {w w' : World} {l : List Ev} {c : Int} (h : bkoL l = [] ∧ bkoC l = c) (hb : Below w.heap.size w w') : GivesC w 61 6 (rdcL l).length (vE (rdcL l)) (bkoC l) (.returned (.tuple #[.slice none 0 0, .int .i64 c])) w' := by
  refine ⟨_, by rw [h.2], ?_, hb⟩
  unfold rdcL
  rw [h.1]
  exact .nil

set_option maxHeartbeats 1000000 in
theorem implReduce_any (v : Value) (l : List Ev) (w : World) (hl : RdE w w.heap.size v l) : Calls Try.prog 23 #[v] w (GivesC w 61 6 (rdcL l).length (vE (rdcL l)) (bkoC l)) := by
  have HQ := Lib.hid (implBlocksOf_any v l w hl)
  clear hl
  by_cases hc : bkoC l = 0
  · have hok : okEvs l = true := by
      cases h : okEvs l
      · rw [(bko_no h).2] at hc; omega
      · rfl
    have HF := Lib.hid (fit_of hok (by rw [← (bko_yes hok).2]; exact hc))
    have HE := Lib.hid (bko_yes hok).1
    have HC := Lib.hid hc
    clear hc hok
    go_enter Try.func23, Try.ntmps23
    go_wp2_with fail
    refine HQ.out.mono ?_
    rintro e w1 ⟨v1, rfl, ho, hb1⟩
    rw [HC.out]
    have HB := Lib.hid hb1
    have HR := Lib.hid ho.rd
    clear hb1 ho
    go_wp2_with fail
    refine (eventsOf_any _ (bkoL l) _ HR.out (HE.out ▸ HF.out)).mono ?_
    rintro e w2 ⟨v2, rfl, ho2, hb2⟩
    have HO2 := Lib.hid (ho2.wide HB.out.size (Nat.le_refl _))
    have HB2 := Lib.hid (HB.out.trans (hb2.mono HB.out.size))
    clear ho2 hb2
    go_wp2
    go_ret2
    exact ⟨v2, (by rw [HC.out]; rfl), HO2.out, HB2.out⟩
  · have hcc : bkoC l = 1 ∨ bkoC l = 5 := by
      cases h : okEvs l
      · exact .inl (bko_no h).2
      · rcases bksC_cases l with h1 | h1 <;> rw [← (bko_yes h).2] at h1
        · exact absurd h1 hc
        · exact .inr h1
    have HN : Hid (bkoL l = []) := by
      cases h : okEvs l
      · exact (bko_no h).1
      · unfold Hid
        rw [(bko_yes h).1]
        rcases hcc with h1 | h1 <;> rw [(bko_yes h).2] at h1
        · rcases bksC_cases l with h2 | h2 <;> omega
        · exact bksL_nil h1
    clear hc
    rcases hcc with hc | hc
    all_goals
      have HC := Lib.hid hc
      clear hc
      go_enter Try.func23, Try.ntmps23
      go_wp2_with fail
      refine HQ.out.mono ?_
      rintro e w1 ⟨v1, rfl, ho, hb1⟩
      rw [HC.out]
      have HB := Lib.hid hb1
      clear hb1 ho
      go_wp2
      go_ret2
      have h9 := GivesC.no5 ⟨HN.out, HC.out⟩ HB.out
      rw [HC.out] at h9 ⊢
      exact h9

set_option maxHeartbeats 1000000 in
theorem specReduce_any (v : Value) (l : List Ev) (w : World) (hl : RdE w w.heap.size v l) : Calls Try.prog 22 #[v] w (GivesC w 61 6 (rdcL l).length (vE (rdcL l)) (bkoC l)) := by
  have HL := Lib.hid hl
  clear hl
  cases hok : okEvs l
  · have HO := Lib.hid hok
    have HE := Lib.hid (bko_no hok)
    clear hok
    go_enter Try.func22, Try.ntmps22
    go_wp2_with fail
    refine (l10Count_any _ l _ _ HL.out (Nat.le_refl _)).mono ?_
    rintro e w1 ⟨rfl, hb1⟩
    rw [HO.out]
    have HB := Lib.hid hb1
    clear hb1
    go_wp2
    go_ret2
    exact GivesC.no5 HE.out HB.out
  · have HO := Lib.hid hok
    have HE := Lib.hid (bko_yes hok)
    rcases bksC_cases l with hc | hc
    · have HF := Lib.hid (fit_of hok hc)
      have HC := Lib.hid hc
      clear hok hc
      go_enter Try.func22, Try.ntmps22
      go_wp2_with fail
      refine (l10Count_any _ l _ _ HL.out (Nat.le_refl _)).mono ?_
      rintro e w1 ⟨rfl, hb1⟩
      rw [HO.out]
      have HB := Lib.hid hb1
      clear hb1
      go_wp2_with fail
      refine (l13Blocks_any _ l _ (RdS.more (HL.out.below HB.out) HB.out.size) HO.out).mono ?_
      rintro e w2 ⟨v2, rfl, ho2, hb2⟩
      rw [HC.out]
      have HB2 := Lib.hid (HB.out.trans (hb2.mono HB.out.size))
      have HR2 := Lib.hid ho2.rd
      clear hb2 ho2
      go_wp2_with fail
      refine (l13Events_any _ (bksL l) _ HR2.out HF.out).mono ?_
      rintro e w3 ⟨v3, rfl, ho3, hb3⟩
      have HO3 := Lib.hid (ho3.wide HB2.out.size (Nat.le_refl _))
      have HB3 := Lib.hid (HB2.out.trans (hb3.mono HB2.out.size))
      clear ho3 hb3
      go_wp2
      go_ret2
      refine ⟨v3, ?_, ?_, HB3.out⟩
      · rw [HE.out.2, HC.out]; rfl
      · unfold rdcL; rw [HE.out.1]; exact HO3.out
    · have HN := Lib.hid (bksL_nil hc)
      have HC := Lib.hid hc
      clear hok hc
      go_enter Try.func22, Try.ntmps22
      go_wp2_with fail
      refine (l10Count_any _ l _ _ HL.out (Nat.le_refl _)).mono ?_
      rintro e w1 ⟨rfl, hb1⟩
      rw [HO.out]
      have HB := Lib.hid hb1
      clear hb1
      go_wp2_with fail
      refine (l13Blocks_any _ l _ (RdS.more (HL.out.below HB.out) HB.out.size) HO.out).mono ?_
      rintro e w2 ⟨v2, rfl, ho2, hb2⟩
      rw [HC.out]
      have HB2 := Lib.hid (HB.out.trans (hb2.mono HB.out.size))
      clear hb2 ho2
      go_wp2
      go_ret2
      exact GivesC.no5 ⟨by rw [HE.out.1, HN.out], by rw [HE.out.2, HC.out]⟩ HB2.out

end Go.Proofs.Ytfeonaocmnpkcaa

/-
  Braids equal as braids, of the program.
-/
namespace Go.Proofs.Ytfeonaocmnpkcaa
set_option linter.unusedVariables false
set_option linter.unusedSimpArgs false
open Go.RowKit

/-- Are two braids valid, on as many strands, and equal as braids? -/
noncomputable def eqBr (a b : Br) : Bool := okBr a && (okBr b && (decide (a.n = b.n) && eqW a.n.toNat a.w b.w))
theorem okBr_lets {b : Br} (h : okBr b = true) : ∃ n : Nat, b.n = n ∧ n ≤ 12 ∧ LetsN n b.w ∧ b.w.length ≤ 40 := by
  unfold okBr at h
  simp only [Bool.and_eq_true, decide_eq_true_eq, Bool.not_eq_true', List.any_eq_false] at h
  obtain ⟨⟨h0, h1⟩, h2, h3⟩ := h
  refine ⟨b.n.toNat, by omega, by omega, fun k hk => ?_, h2⟩
  have h4 := h3 k hk
  simp [badL] at h4
  exact ⟨h4.1, by omega⟩

set_option maxHeartbeats 2000000 in
set_option maxRecDepth 100000 in
theorem equalBraids_any (v u : Value) (a b : Br) (w : World) (hl : RdBr w w.heap.size v a) (hm : RdBr w w.heap.size u b) :
    Calls Try.prog 33 #[v, u] w fun e w' => e = .returned (.bool (eqBr a b)) ∧ Below w.heap.size w w' := by
  obtain ⟨s, rfl, hs⟩ := hl
  obtain ⟨p, rfl, hp⟩ := hm
  obtain ⟨A0, n0, c0, rfl⟩ := hs.shape
  obtain ⟨A2, n2, c2, rfl⟩ := hp.shape
  have HS := Lib.hid hs
  have HP := Lib.hid hp
  clear hs hp
  have HB0 := Lib.hid (show Below w.heap.size w ((w.alloc (.cells #[.int .i64 a.n, .slice A0 n0 c0] 30)).alloc (.cells #[.int .i64 b.n, .slice A2 n2 c2] 30)) from ((Below.refl _ _).alloc (Nat.le_refl _) _).alloc (by simp) _)
  have hca : CellsAt ((w.alloc (.cells #[.int .i64 a.n, .slice A0 n0 c0] 30)).alloc (.cells #[.int .i64 b.n, .slice A2 n2 c2] 30)) w.heap.size 0 [.int .i64 a.n, .slice A0 n0 c0] := by
    intro j u hu; rcases j with _ | _ | j <;> simp at hu <;> subst hu <;> simp [go_sem]
  have hcb : CellsAt ((w.alloc (.cells #[.int .i64 a.n, .slice A0 n0 c0] 30)).alloc (.cells #[.int .i64 b.n, .slice A2 n2 c2] 30)) (w.heap.size + 1) 0 [.int .i64 b.n, .slice A2 n2 c2] := by
    intro j u hu; rcases j with _ | _ | j <;> simp at hu <;> subst hu <;> simp [go_sem]
  have HCA := Lib.hid hca
  have HCB := Lib.hid hcb
  clear hca hcb
  have HK := Lib.hid (validBraid_any _ a _ ⟨_, rfl, HS.out.up HB0.out HB0.out.size⟩)
  cases hoa : okBr a
  · rw [hoa] at HK
    have HR : Hid (eqBr a b = false) := by unfold Hid eqBr; rw [hoa]; rfl
    clear hoa
    go_enter Try.func33, Try.ntmps33
    go_wp2_with fail
    refine HK.out.mono ?_
    rintro e w1 ⟨rfl, hb⟩
    have HB := Lib.hid (HB0.out.trans (hb.mono HB0.out.size))
    clear hb
    go_wp2
    go_ret
    exact ⟨ret_bool HR.out.symm, HB.out⟩
  · rw [hoa] at HK
    have HOA := Lib.hid hoa
    clear hoa
    cases hob : okBr b
    · have HOB := Lib.hid hob
      have HR : Hid (eqBr a b = false) := by unfold Hid eqBr; rw [hob, HOA.out]; rfl
      clear hob
      go_enter Try.func33, Try.ntmps33
      go_wp2_with fail
      refine HK.out.mono ?_
      rintro e w1 ⟨rfl, hb⟩
      obtain ⟨x0, x1⟩ := (HCB.out.below hb (by simp)).two
      have HB := Lib.hid (HB0.out.trans (hb.mono HB0.out.size))
      clear hb
      go_wp2_with fail
      refine (validBraid_any _ b _ ⟨_, rfl, HP.out.up HB.out HB.out.size⟩).mono ?_
      rintro e w2 ⟨rfl, hb⟩
      rw [HOB.out]
      have HB2 := Lib.hid (HB.out.trans (hb.mono HB.out.size))
      clear hb
      go_wp2
      go_ret
      exact ⟨ret_bool HR.out.symm, HB2.out⟩
    · have HOB := Lib.hid hob
      clear hob
      obtain ⟨na, hna, hna12, hla, hlal⟩ := okBr_lets HOA.out
      obtain ⟨nb, hnb, hnb12, hlb, hlbl⟩ := okBr_lets HOB.out
      have HLA := Lib.hid hla
      have HLB := Lib.hid hlb
      clear hla hlb
      by_cases hn : na = nb
      · subst hn
        have HR : Hid (eqBr a b = eqW na a.w b.w) := by unfold Hid eqBr; rw [HOB.out, HOA.out, hna, hnb]; simp
        rw [hna] at HB0 HCA HCB HK ⊢
        rw [hnb] at HB0 HCA HCB HK ⊢
        have hnb' := Lib.hid hnb
        clear hna hnb
        go_enter Try.func33, Try.ntmps33
        go_wp2_with fail
        refine HK.out.mono ?_
        rintro e w1 ⟨rfl, hb⟩
        obtain ⟨x0, x1⟩ := (HCB.out.below hb (by simp)).two
        have HB := Lib.hid (HB0.out.trans (hb.mono HB0.out.size))
        have HCA1 := Lib.hid (HCA.out.below hb (by simp; try omega))
        have HCB1 := Lib.hid (HCB.out.below hb (by simp))
        have hz1 := hb.size
        simp at hz1
        clear hb
        go_wp2_with fail
        refine (validBraid_any _ b _ ⟨_, by rw [hnb'.out], HP.out.up HB.out HB.out.size⟩).mono ?_
        rintro e w2 ⟨rfl, hb⟩
        rw [HOB.out]
        have HB2 := Lib.hid (HB.out.trans (hb.mono HB.out.size))
        clear x0 x1
        obtain ⟨x0, x1⟩ := (HCB1.out.below hb (by omega)).two
        obtain ⟨y0, y1⟩ := (HCA1.out.below hb (by omega)).two
        clear hb
        have HQ := Lib.hid (equalWords_any na hna12 a.w b.w HLA.out HLB.out (by omega) (by omega) _ _ w2 (HS.out.up HB2.out HB2.out.size) (HP.out.up HB2.out HB2.out.size))
        go_wp2_with fail
        refine HQ.out.mono ?_
        rintro e w3 ⟨rfl, hb⟩
        have HB3 := Lib.hid (HB2.out.trans (hb.mono HB2.out.size))
        clear hb
        go_wp2
        go_ret
        exact ⟨ret_bool HR.out.symm, HB3.out⟩
      · have HR : Hid (eqBr a b = false) := by unfold Hid eqBr; rw [HOB.out, HOA.out, hna, hnb]; simp; omega
        have hd : ((na : Int) == (nb : Int)) = false := by simp; omega
        rw [hna] at HB0 HCA HCB HK ⊢
        rw [hnb] at HB0 HCA HCB HK ⊢
        have hnb' := Lib.hid hnb
        clear hna hnb hn
        go_enter Try.func33, Try.ntmps33
        go_wp2_with fail
        refine HK.out.mono ?_
        rintro e w1 ⟨rfl, hb⟩
        obtain ⟨x0, x1⟩ := (HCB.out.below hb (by simp)).two
        have HB := Lib.hid (HB0.out.trans (hb.mono HB0.out.size))
        have HCA1 := Lib.hid (HCA.out.below hb (by simp; try omega))
        have HCB1 := Lib.hid (HCB.out.below hb (by simp))
        have hz1 := hb.size
        simp at hz1
        clear hb
        go_wp2_with fail
        refine (validBraid_any _ b _ ⟨_, by rw [hnb'.out], HP.out.up HB.out HB.out.size⟩).mono ?_
        rintro e w2 ⟨rfl, hb⟩
        rw [HOB.out]
        have HB2 := Lib.hid (HB.out.trans (hb.mono HB.out.size))
        clear x0 x1
        obtain ⟨x0, x1⟩ := (HCB1.out.below hb (by omega)).two
        obtain ⟨y0, y1⟩ := (HCA1.out.below hb (by omega)).two
        clear hb
        go_wp2
        go_ret
        exact ⟨ret_bool HR.out.symm, HB2.out⟩

end Go.Proofs.Ytfeonaocmnpkcaa

/-
  Blocks equal, of the program and of the reference.
-/
namespace Go.Proofs.Ytfeonaocmnpkcaa
set_option linter.unusedVariables false
set_option linter.unusedSimpArgs false
open Go.RowKit

noncomputable def eqBk (a b : Bk) : Bool := eqBr a.b b.b && decide (a.e = b.e)

set_option maxHeartbeats 2000000 in
set_option maxRecDepth 100000 in
theorem implEqualBlocks_any (v u : Value) (a b : Bk) (w : World) (hl : RdBkV w w.heap.size v a) (hm : RdBkV w w.heap.size u b) :
    Calls Try.prog 11 #[v, u] w fun e w' => e = .returned (.bool (eqBk a b)) ∧ Below w.heap.size w w' := by
  obtain ⟨s, t, rfl, hs, ht⟩ := hl
  obtain ⟨p, q, rfl, hp, hq⟩ := hm
  obtain ⟨A0, n0, c0, rfl⟩ := hs.shape
  obtain ⟨A1, n1, c1, rfl⟩ := ht.shape'
  obtain ⟨A2, n2, c2, rfl⟩ := hp.shape
  obtain ⟨A3, n3, c3, rfl⟩ := hq.shape'
  obtain ⟨ab, ae⟩ := a
  obtain ⟨bb, be⟩ := b
  have HS := Lib.hid hs
  have HT := Lib.hid ht
  have HP := Lib.hid hp
  have HQ := Lib.hid hq
  clear hs ht hp hq
  dsimp only at HS HT HP HQ
  have HB0 := Lib.hid (show Below w.heap.size w ((w.alloc (.cells #[.int .i64 ab.n, .slice A0 n0 c0, .slice A1 n1 c1] 33)).alloc (.cells #[.int .i64 bb.n, .slice A2 n2 c2, .slice A3 n3 c3] 33)) from ((Below.refl _ _).alloc (Nat.le_refl _) _).alloc (by simp) _)
  have hca : CellsAt ((w.alloc (.cells #[.int .i64 ab.n, .slice A0 n0 c0, .slice A1 n1 c1] 33)).alloc (.cells #[.int .i64 bb.n, .slice A2 n2 c2, .slice A3 n3 c3] 33)) w.heap.size 0 [.int .i64 ab.n, .slice A0 n0 c0, .slice A1 n1 c1] := by
    intro j u hu; rcases j with _ | _ | _ | j <;> simp at hu <;> subst hu <;> simp [go_sem]
  have hcb : CellsAt ((w.alloc (.cells #[.int .i64 ab.n, .slice A0 n0 c0, .slice A1 n1 c1] 33)).alloc (.cells #[.int .i64 bb.n, .slice A2 n2 c2, .slice A3 n3 c3] 33)) (w.heap.size + 1) 0 [.int .i64 bb.n, .slice A2 n2 c2, .slice A3 n3 c3] := by
    intro j u hu; rcases j with _ | _ | _ | j <;> simp at hu <;> subst hu <;> simp [go_sem]
  have HCA := Lib.hid hca
  have HCB := Lib.hid hcb
  clear hca hcb
  have HK := Lib.hid (equalBraids_any _ _ ab bb _ ⟨_, rfl, HS.out.up HB0.out HB0.out.size⟩ ⟨_, rfl, HP.out.up HB0.out HB0.out.size⟩)
  have HR : Hid (eqBk ⟨ab, ae⟩ ⟨bb, be⟩ = (eqBr ab bb && decide (ae = be))) := rfl
  generalize eqBk ⟨ab, ae⟩ ⟨bb, be⟩ = R at *
  cases h : eqBr ab bb
  · rw [h] at HK HR
    clear h
    go_enter Try.func11, Try.ntmps11
    go_wp2_with fail
    refine HK.out.mono ?_
    rintro e w1 ⟨rfl, hb⟩
    have HB := Lib.hid (HB0.out.trans (hb.mono HB0.out.size))
    clear hb
    go_wp2
    go_ret
    exact ⟨ret_bool (by rw [HR.out]; rfl), HB.out⟩
  · rw [h] at HK HR
    clear h
    go_enter Try.func11, Try.ntmps11
    go_wp2_with fail
    refine HK.out.mono ?_
    rintro e w1 ⟨rfl, hb⟩
    obtain ⟨y0, y1, y2⟩ := (HCA.out.below hb (by simp; try omega)).three
    obtain ⟨x0, x1, x2⟩ := (HCB.out.below hb (by simp; try omega)).three
    have HB := Lib.hid (HB0.out.trans (hb.mono HB0.out.size))
    clear hb
    go_wp2_with fail
    refine (eqlEvents_any _ _ ae be _ _ ((HT.out.below HB.out).more HB.out.size) ((HQ.out.below HB.out).more HB.out.size) (Nat.le_refl _)).mono ?_
    rintro e w2 ⟨rfl, hb⟩
    have HB2 := Lib.hid (HB.out.trans (hb.mono HB.out.size))
    clear hb
    go_wp2
    go_ret
    exact ⟨ret_bool (by rw [HR.out]; simp), HB2.out⟩

set_option maxHeartbeats 4000000 in
set_option maxRecDepth 100000 in
theorem l13Equal_any (a b : Bk) (n m : Nat) (hn : a.b.n = n) (hm : b.b.n = m) (hn12 : n ≤ 12) (hla : LetsN n a.b.w) (hlb : LetsN m b.b.w) (hal : a.b.w.length ≤ 40) (hbl : b.b.w.length ≤ 40) (g1 o1 g2 o2 : Nat) (s t p q : Value) (w : World)
    (hc1 : CellsAt w g1 o1 [.int .i64 (n : Int), s, t]) (hc2 : CellsAt w g2 o2 [.int .i64 (m : Int), p, q]) (hs : RdI w w.heap.size s a.b.w) (ht : RdE w w.heap.size t a.e) (hp : RdI w w.heap.size p b.b.w) (hq : RdE w w.heap.size q b.e) :
    Calls Try.prog 31 #[.pointer (some ⟨g1, o1, none⟩), .pointer (some ⟨g2, o2, none⟩)] w fun e w' => e = .returned (.bool (decide (n = m) && (decide (a.e = b.e) && eqW n a.b.w b.b.w))) ∧ Below w.heap.size w w' := by
  obtain ⟨A0, n0, c0, rfl⟩ := hs.shape
  obtain ⟨A1, n1, c1, rfl⟩ := ht.shape'
  obtain ⟨A2, n2, c2, rfl⟩ := hp.shape
  obtain ⟨A3, n3, c3, rfl⟩ := hq.shape'
  obtain ⟨e0, e1, e2⟩ := hc1.grow3
  obtain ⟨f0, f1, f2⟩ := hc2.grow3
  have HQ1 := fun X => Lib.hid (specSameEvents_any _ _ a.e b.e (wgrow w X) _ (show RdE (wgrow w X) (wgrow w X).heap.size _ _ from (ht.below (below_wgrow w X)).more (below_wgrow w X).size) ((hq.below (below_wgrow w X)).more (below_wgrow w X).size) (Nat.le_refl _))
  by_cases hnm : n = m
  · subst hnm
    have HQ2 := fun X => Lib.hid (l04Equal_any n hn12 a.b.w b.b.w hla hlb (by omega) (by omega) _ _ (wgrow w X) (hs.up (below_wgrow w X) (below_wgrow w X).size) (hp.up (below_wgrow w X) (below_wgrow w X).size))
    have hnn : ((n : Int) == (n : Int)) = true := by simp
    clear hc1 hc2 hs ht hp hq hla hlb hal hbl hn hm
    simp only [decide_true, Bool.true_and]
    generalize eqW n a.b.w b.b.w = E at *
    generalize decide (a.e = b.e) = D at *
    cases D
    · go_enter Try.func31, Try.ntmps31
      go_wp2
      refine wp_region_grow (by kernel_rfl) (by kernel_rfl) ?_
      repeat (go_big_quiet_step ((first | (go_at_call 53; exact calls_grow (HQ1 _).out) | (go_at_call 54; exact calls_grow (HQ2 _).out))))
      refine wpQuiet_nil ?_
      intro w1 hb1
      go_wp2
      go_ret
      exact ⟨ret_bool (by simp), hb1⟩
    · go_enter Try.func31, Try.ntmps31
      go_wp2
      refine wp_region_grow (by kernel_rfl) (by kernel_rfl) ?_
      repeat (go_big_quiet_step ((first | (go_at_call 53; exact calls_grow (HQ1 _).out) | (go_at_call 54; exact calls_grow (HQ2 _).out))))
      refine wpQuiet_nil ?_
      intro w1 hb1
      go_wp2
      go_ret
      exact ⟨ret_bool (by simp), hb1⟩
  · have hd : ((n : Int) == (m : Int)) = false := by simp; omega
    have hd2 : decide (n = m) = false := by simpa using hnm
    rw [hd2]
    clear hc1 hc2 hs ht hp hq hla hlb hal hbl hn hm hnm hd2
    go_enter Try.func31, Try.ntmps31
    go_wp2
    refine wp_region_grow (by kernel_rfl) (by kernel_rfl) ?_
    repeat (go_big_quiet_step (fail))
    refine wpQuiet_nil ?_
    intro w1 hb1
    go_wp2
    go_ret
    exact ⟨ret_bool (by simp), hb1⟩

end Go.Proofs.Ytfeonaocmnpkcaa

/-
  Blocks equal, of the reference.
-/
namespace Go.Proofs.Ytfeonaocmnpkcaa
set_option linter.unusedVariables false
set_option linter.unusedSimpArgs false
open Go.RowKit

theorem cells_two {w : World} {b o : Nat} {u0 u1 u2 : Value} (h : CellsAt w b o [u0, u1, u2]) : CellsAt w b o [u0, u1] := by
  intro j u hu
  rcases j with _ | _ | j
  · exact h 0 u hu
  · exact h 1 u hu
  · simp at hu

set_option maxHeartbeats 2000000 in
set_option maxRecDepth 100000 in
theorem specEqualBlocks_any (v u : Value) (a b : Bk) (w : World) (hl : RdBkV w w.heap.size v a) (hm : RdBkV w w.heap.size u b) :
    Calls Try.prog 9 #[v, u] w fun e w' => e = .returned (.bool (eqBk a b)) ∧ Below w.heap.size w w' := by
  obtain ⟨s, t, rfl, hs, ht⟩ := hl
  obtain ⟨p, q, rfl, hp, hq⟩ := hm
  have hsv := hs
  have hpv := hp
  obtain ⟨A0, n0, c0, rfl⟩ := hs.shape
  obtain ⟨A1, n1, c1, rfl⟩ := ht.shape'
  obtain ⟨A2, n2, c2, rfl⟩ := hp.shape
  obtain ⟨A3, n3, c3, rfl⟩ := hq.shape'
  have HS := Lib.hid hs
  have HT := Lib.hid ht
  have HP := Lib.hid hp
  have HQ := Lib.hid hq
  clear hs ht hp hq hsv hpv
  have HB0 := Lib.hid (show Below w.heap.size w ((w.alloc (.cells #[.int .i64 a.b.n, .slice A0 n0 c0, .slice A1 n1 c1] 33)).alloc (.cells #[.int .i64 b.b.n, .slice A2 n2 c2, .slice A3 n3 c3] 33)) from ((Below.refl _ _).alloc (Nat.le_refl _) _).alloc (by simp) _)
  have hca : CellsAt ((w.alloc (.cells #[.int .i64 a.b.n, .slice A0 n0 c0, .slice A1 n1 c1] 33)).alloc (.cells #[.int .i64 b.b.n, .slice A2 n2 c2, .slice A3 n3 c3] 33)) w.heap.size 0 [.int .i64 a.b.n, .slice A0 n0 c0, .slice A1 n1 c1] := by
    intro j u hu; rcases j with _ | _ | _ | j <;> simp at hu <;> subst hu <;> simp [go_sem]
  have hcb : CellsAt ((w.alloc (.cells #[.int .i64 a.b.n, .slice A0 n0 c0, .slice A1 n1 c1] 33)).alloc (.cells #[.int .i64 b.b.n, .slice A2 n2 c2, .slice A3 n3 c3] 33)) (w.heap.size + 1) 0 [.int .i64 b.b.n, .slice A2 n2 c2, .slice A3 n3 c3] := by
    intro j u hu; rcases j with _ | _ | _ | j <;> simp at hu <;> subst hu <;> simp [go_sem]
  have HCA := Lib.hid hca
  have HCB := Lib.hid hcb
  clear hca hcb
  have HK := Lib.hid (l03Ok_any a.b _ w.heap.size _ (cells_two HCA.out) (HS.out.up HB0.out HB0.out.size))
  have HR : Hid (eqBk a b = (okBr a.b && (okBr b.b && (decide (a.b.n = b.b.n) && (decide (a.e = b.e) && eqW a.b.n.toNat a.b.w b.b.w))))) := by
    unfold Hid eqBk eqBr
    cases okBr a.b <;> cases okBr b.b <;> cases decide (a.b.n = b.b.n) <;> cases decide (a.e = b.e) <;> simp
  generalize eqBk a b = R at *
  cases hoa : okBr a.b
  · rw [hoa] at HK HR
    clear hoa
    go_enter Try.func9, Try.ntmps9
    go_wp2_with fail
    refine HK.out.mono ?_
    rintro e w1 ⟨rfl, hb⟩
    have HB := Lib.hid (HB0.out.trans (hb.mono HB0.out.size))
    clear hb
    go_wp2
    go_ret
    exact ⟨ret_bool (by rw [HR.out]; rfl), HB.out⟩
  · rw [hoa] at HK HR
    have HOA := Lib.hid hoa
    clear hoa
    go_enter Try.func9, Try.ntmps9
    go_wp2_with fail
    refine HK.out.mono ?_
    rintro e w1 ⟨rfl, hb⟩
    have HCA1 := Lib.hid (HCA.out.below hb (by simp; try omega))
    have HCB1 := Lib.hid (HCB.out.below hb (by simp))
    have HB := Lib.hid (HB0.out.trans (hb.mono HB0.out.size))
    have hz1 := hb.size
    simp at hz1
    clear hb
    have HK2 := Lib.hid (l03Ok_any b.b _ (w.heap.size + 1) w1 (cells_two HCB1.out) (HP.out.up HB.out HB.out.size))
    cases hob : okBr b.b
    · rw [hob] at HK2 HR
      clear hob
      go_wp2_with fail
      refine HK2.out.mono ?_
      rintro e w2 ⟨rfl, hb⟩
      have HB2 := Lib.hid (HB.out.trans (hb.mono HB.out.size))
      clear hb
      go_wp2
      go_ret
      exact ⟨ret_bool (by rw [HR.out]; rfl), HB2.out⟩
    · rw [hob] at HK2 HR
      obtain ⟨na, hna, hna12, hla, hlal⟩ := okBr_lets HOA.out
      obtain ⟨nb, hnb, hnb12, hlb, hlbl⟩ := okBr_lets hob
      clear hob
      go_wp2_with fail
      refine HK2.out.mono ?_
      rintro e w2 ⟨rfl, hb⟩
      have HB2 := Lib.hid (HB.out.trans (hb.mono HB.out.size))
      have HQE := Lib.hid (l13Equal_any a b na nb hna hnb hna12 hla hlb hlal hlbl w.heap.size 0 (w.heap.size + 1) 0 _ _ _ _ w2 (by rw [← hna]; exact HCA1.out.below hb (by omega)) (by rw [← hnb]; exact HCB1.out.below hb (by omega)) (HS.out.up HB2.out HB2.out.size) ((HT.out.below HB2.out).more HB2.out.size) (HP.out.up HB2.out HB2.out.size) ((HQ.out.below HB2.out).more HB2.out.size))
      have HE : Hid (R = (decide (na = nb) && (decide (a.e = b.e) && eqW na a.b.w b.b.w))) := by
        unfold Hid
        rw [HR.out, hna, hnb]
        have hdd : decide ((na : Int) = (nb : Int)) = decide (na = nb) := by
          rw [Bool.eq_iff_iff]
          simp only [decide_eq_true_eq]
          omega
        rw [hdd]
        rfl
      clear hb hna hnb hla hlb
      go_wp2_with fail
      refine HQE.out.mono ?_
      rintro e w3 ⟨rfl, hb⟩
      rw [← HE.out]
      have HB3 := Lib.hid (HB2.out.trans (hb.mono HB2.out.size))
      clear hb
      go_wp2
      go_ret
      exact ⟨ret_bool (by simp), HB3.out⟩

end Go.Proofs.Ytfeonaocmnpkcaa

/-
  SameFabric and FirstDifference, of the program and of the reference.
-/
namespace Go.Proofs.Ytfeonaocmnpkcaa
set_option linter.unusedVariables false
set_option linter.unusedSimpArgs false
open Go.RowKit

/-- The code of two lists of events. -/
noncomputable def prC (a b : List Ev) : Int := if okEvs a = true ∧ okEvs b = true then (if bksC a = 0 then bksC b else bksC a) else 1
/-- Two lists of blocks, and a code. -/
def GivesPr (w : World) (a b : List Ev) (e : Ending) (w' : World) : Prop := ∃ u v, e = .returned (.tuple #[u, v, .int .i64 (prC a b)]) ∧ (prC a b = 0 → RdBks w' w'.heap.size u (bksL a) ∧ RdBks w' w'.heap.size v (bksL b)) ∧ Below w.heap.size w w'
theorem prC_a {a b : List Ev} (h : okEvs a = false) : prC a b = 1 := by simp [prC, h]
theorem prC_b {a b : List Ev} (h : okEvs b = false) : prC a b = 1 := by simp [prC, h]
theorem prC_5 {a b : List Ev} (ha : okEvs a = true) (hb : okEvs b = true) (h : bksC a = 5) : prC a b = 5 := by simp [prC, ha, hb, h]
theorem prC_0 {a b : List Ev} (ha : okEvs a = true) (hb : okEvs b = true) (h : bksC a = 0) : prC a b = bksC b := by simp [prC, ha, hb, h]
theorem prC_good {a b : List Ev} (h : prC a b = 0) : (okEvs a = true ∧ bksC a = 0) ∧ okEvs b = true ∧ bksC b = 0 := by
  unfold prC at h
  split at h
  · rename_i hk
    split at h
    · rename_i h0; exact ⟨⟨hk.1, h0⟩, hk.2, h⟩
    · rcases bksC_cases a with h1 | h1 <;> omega
  · omega
theorem prC_cases (a b : List Ev) : prC a b = 0 ∨ prC a b = 1 ∨ prC a b = 5 := by
  unfold prC
  split
  · split
    · rcases bksC_cases b with h1 | h1 <;> omega
    · rcases bksC_cases a with h1 | h1 <;> omega
  · exact .inr (.inl rfl)

set_option maxHeartbeats 2000000 in
set_option maxRecDepth 100000 in
theorem blockPair_any (u v : Value) (a b : List Ev) (w : World) (hl : RdE w w.heap.size u a) (hm : RdE w w.heap.size v b) : Calls Try.prog 48 #[u, v] w (GivesPr w a b) := by
  have HL := Lib.hid hl
  have HM := Lib.hid hm
  clear hl hm
  cases ha : okEvs a
  · have HA := Lib.hid ha
    have HC := Lib.hid (prC_a (b := b) ha)
    clear ha
    go_enter Try.func48, Try.ntmps48
    go_wp2_with fail
    refine (implValidEvents_any _ a _ _ HL.out (Nat.le_refl _)).mono ?_
    rintro e w1 ⟨rfl, hb1⟩
    rw [HA.out]
    have HB := Lib.hid hb1
    clear hb1
    go_wp2
    go_ret3
    exact ⟨_, _, by rw [HC.out]; rfl, fun h => by rw [HC.out] at h; omega, HB.out⟩
  have HA := Lib.hid ha
  have HQ2 := Lib.hid (fun (w1 : World) (h : Below w.heap.size w w1) => implValidEvents_any v b w1 w1.heap.size (RdS.more (HM.out.below h) h.size) (Nat.le_refl _))
  cases hb : okEvs b
  · have HBO := Lib.hid hb
    have HC := Lib.hid (prC_b (a := a) hb)
    clear ha hb
    go_enter Try.func48, Try.ntmps48
    go_wp2_with fail
    refine (implValidEvents_any _ a _ _ HL.out (Nat.le_refl _)).mono ?_
    rintro e w1 ⟨rfl, hb1⟩
    rw [HA.out]
    have HB := Lib.hid hb1
    clear hb1
    go_wp2_with fail
    refine (HQ2.out _ HB.out).mono ?_
    rintro e w2 ⟨rfl, hb2⟩
    rw [HBO.out]
    have HB2 := Lib.hid (HB.out.trans (hb2.mono HB.out.size))
    clear hb2
    go_wp2
    go_ret3
    exact ⟨_, _, by rw [HC.out]; rfl, fun h => by rw [HC.out] at h; omega, HB2.out⟩
  have HBO := Lib.hid hb
  have HQ3 := Lib.hid (fun (w1 : World) (h : Below w.heap.size w w1) => blocks_any u a w1 (RdS.more (HL.out.below h) h.size) HA.out)
  have HQ4 := Lib.hid (fun (w1 : World) (h : Below w.heap.size w w1) => blocks_any v b w1 (RdS.more (HM.out.below h) h.size) HBO.out)
  rcases bksC_cases a with hc | hc
  · have HC := Lib.hid (prC_0 ha hb hc)
    have HCA := Lib.hid hc
    clear ha hb hc
    go_enter Try.func48, Try.ntmps48
    go_wp2_with fail
    refine (implValidEvents_any _ a _ _ HL.out (Nat.le_refl _)).mono ?_
    rintro e w1 ⟨rfl, hb1⟩
    rw [HA.out]
    have HB := Lib.hid hb1
    clear hb1
    go_wp2_with fail
    refine (HQ2.out _ HB.out).mono ?_
    rintro e w2 ⟨rfl, hb2⟩
    rw [HBO.out]
    have HB2 := Lib.hid (HB.out.trans (hb2.mono HB.out.size))
    clear hb2
    go_wp2_with fail
    refine (HQ3.out _ HB2.out).mono ?_
    rintro e w3 ⟨v3, rfl, ho3, hb3⟩
    rw [HCA.out]
    have HB3 := Lib.hid (HB2.out.trans (hb3.mono HB2.out.size))
    have HR3 := Lib.hid ho3.rd
    clear hb3 ho3
    go_wp2_with fail
    refine (HQ4.out _ HB3.out).mono ?_
    rintro e w4 ⟨v4, rfl, ho4, hb4⟩
    have HB4 := Lib.hid (HB3.out.trans (hb4.mono HB3.out.size))
    have HR4 := Lib.hid ho4.rd
    have HR3' := Lib.hid ((HR3.out.below hb4).more hb4.size)
    clear hb4 ho4
    go_wp2
    go_ret3
    exact ⟨v3, v4, by rw [HC.out]; rfl, fun _ => ⟨HR3'.out, HR4.out⟩, HB4.out⟩
  · have HC := Lib.hid (prC_5 ha hb hc)
    have HCA := Lib.hid hc
    clear ha hb hc
    go_enter Try.func48, Try.ntmps48
    go_wp2_with fail
    refine (implValidEvents_any _ a _ _ HL.out (Nat.le_refl _)).mono ?_
    rintro e w1 ⟨rfl, hb1⟩
    rw [HA.out]
    have HB := Lib.hid hb1
    clear hb1
    go_wp2_with fail
    refine (HQ2.out _ HB.out).mono ?_
    rintro e w2 ⟨rfl, hb2⟩
    rw [HBO.out]
    have HB2 := Lib.hid (HB.out.trans (hb2.mono HB.out.size))
    clear hb2
    go_wp2_with fail
    refine (HQ3.out _ HB2.out).mono ?_
    rintro e w3 ⟨v3, rfl, ho3, hb3⟩
    rw [HCA.out]
    have HB3 := Lib.hid (HB2.out.trans (hb3.mono HB2.out.size))
    clear hb3 ho3
    go_wp2
    go_ret3
    exact ⟨_, _, by rw [HC.out]; rfl, fun h => by rw [HC.out] at h; omega, HB3.out⟩

set_option maxHeartbeats 2000000 in
set_option maxRecDepth 100000 in
theorem l13Both_any (u v : Value) (a b : List Ev) (w : World) (hl : RdE w w.heap.size u a) (hm : RdE w w.heap.size v b) : Calls Try.prog 46 #[u, v] w (GivesPr w a b) := by
  have HL := Lib.hid hl
  have HM := Lib.hid hm
  clear hl hm
  have HQ2 := Lib.hid (fun (w1 : World) (h : Below w.heap.size w w1) => l10Count_any v b w1 w1.heap.size (RdS.more (HM.out.below h) h.size) (Nat.le_refl _))
  by_cases hok : okEvs a = true ∧ okEvs b = true
  · obtain ⟨ha, hb⟩ := hok
    have HA := Lib.hid ha
    have HBO := Lib.hid hb
    have HQ3 := Lib.hid (fun (w1 : World) (h : Below w.heap.size w w1) => l13Blocks_any u a w1 (RdS.more (HL.out.below h) h.size) HA.out)
    have HQ4 := Lib.hid (fun (w1 : World) (h : Below w.heap.size w w1) => l13Blocks_any v b w1 (RdS.more (HM.out.below h) h.size) HBO.out)
    rcases bksC_cases a with hc | hc
    · have HC := Lib.hid (prC_0 ha hb hc)
      have HCA := Lib.hid hc
      clear ha hb hc
      go_enter Try.func46, Try.ntmps46
      go_wp2_with fail
      refine (l10Count_any _ a _ _ HL.out (Nat.le_refl _)).mono ?_
      rintro e w1 ⟨rfl, hb1⟩
      rw [HA.out]
      have HB := Lib.hid hb1
      clear hb1
      go_wp2_with fail
      refine (HQ2.out _ HB.out).mono ?_
      rintro e w2 ⟨rfl, hb2⟩
      rw [HBO.out]
      have HB2 := Lib.hid (HB.out.trans (hb2.mono HB.out.size))
      clear hb2
      go_wp2_with fail
      refine (HQ3.out _ HB2.out).mono ?_
      rintro e w3 ⟨v3, rfl, ho3, hb3⟩
      rw [HCA.out]
      have HB3 := Lib.hid (HB2.out.trans (hb3.mono HB2.out.size))
      have HR3 := Lib.hid ho3.rd
      clear hb3 ho3
      go_wp2_with fail
      refine (HQ4.out _ HB3.out).mono ?_
      rintro e w4 ⟨v4, rfl, ho4, hb4⟩
      have HB4 := Lib.hid (HB3.out.trans (hb4.mono HB3.out.size))
      have HR4 := Lib.hid ho4.rd
      have HR3' := Lib.hid ((HR3.out.below hb4).more hb4.size)
      clear hb4 ho4
      go_wp2
      go_ret3
      exact ⟨v3, v4, by rw [HC.out]; rfl, fun _ => ⟨HR3'.out, HR4.out⟩, HB4.out⟩
    · have HC := Lib.hid (prC_5 ha hb hc)
      have HCA := Lib.hid hc
      clear ha hb hc
      go_enter Try.func46, Try.ntmps46
      go_wp2_with fail
      refine (l10Count_any _ a _ _ HL.out (Nat.le_refl _)).mono ?_
      rintro e w1 ⟨rfl, hb1⟩
      rw [HA.out]
      have HB := Lib.hid hb1
      clear hb1
      go_wp2_with fail
      refine (HQ2.out _ HB.out).mono ?_
      rintro e w2 ⟨rfl, hb2⟩
      rw [HBO.out]
      have HB2 := Lib.hid (HB.out.trans (hb2.mono HB.out.size))
      clear hb2
      go_wp2_with fail
      refine (HQ3.out _ HB2.out).mono ?_
      rintro e w3 ⟨v3, rfl, ho3, hb3⟩
      rw [HCA.out]
      have HB3 := Lib.hid (HB2.out.trans (hb3.mono HB2.out.size))
      clear hb3 ho3
      go_wp2
      go_ret3
      exact ⟨_, _, by rw [HC.out]; rfl, fun h => by rw [HC.out] at h; omega, HB3.out⟩
  · have HC : Hid (prC a b = 1) := by unfold Hid prC; rw [if_neg hok]
    cases ha : okEvs a
    all_goals cases hb : okEvs b
    case true.true => exact absurd ⟨ha, hb⟩ hok
    all_goals
      have HA := Lib.hid ha
      have HBO := Lib.hid hb
      clear hok ha hb
      go_enter Try.func46, Try.ntmps46
      go_wp2_with fail
      refine (l10Count_any _ a _ _ HL.out (Nat.le_refl _)).mono ?_
      rintro e w1 ⟨rfl, hb1⟩
      rw [HA.out]
      have HB := Lib.hid hb1
      clear hb1
      go_wp2_with fail
      refine (HQ2.out _ HB.out).mono ?_
      rintro e w2 ⟨rfl, hb2⟩
      rw [HBO.out]
      have HB2 := Lib.hid (HB.out.trans (hb2.mono HB.out.size))
      clear hb2
      go_wp2
      go_ret3
      exact ⟨_, _, by rw [HC.out]; rfl, fun h => by rw [HC.out] at h; omega, HB2.out⟩

/-- The first place where two lists of blocks differ. -/
noncomputable def fdGo : Nat → List Bk → List Bk → Int
  | k, x :: xs, y :: ys => if eqBk x y = true then fdGo (k + 1) xs ys else k
  | _, [], [] => -1
  | k, _, _ => k
theorem fd_eq {R : Int} {a b : List Bk} {k : Nat} {x y : Bk} (h : R = fdGo k (a.drop k) (b.drop k)) (hx : a[k]? = some x) (hy : b[k]? = some y) (he : eqBk x y = true) : R = fdGo (k + 1) (a.drop (k + 1)) (b.drop (k + 1)) := by
  rw [h, drop_of_get hx, drop_of_get hy, fdGo, if_pos he]
theorem fd_ne {R : Int} {a b : List Bk} {k : Nat} {x y : Bk} (h : R = fdGo k (a.drop k) (b.drop k)) (hx : a[k]? = some x) (hy : b[k]? = some y) (he : eqBk x y = false) : R = k := by
  rw [h, drop_of_get hx, drop_of_get hy, fdGo, if_neg (by simp [he])]
theorem fd_end {R : Int} {a b : List Bk} {k : Nat} (h : R = fdGo k (a.drop k) (b.drop k)) (ha : a.length ≤ k) (hb : b.length ≤ k) : R = -1 := by
  rw [h, List.drop_of_length_le ha, List.drop_of_length_le hb, fdGo]
theorem fd_a {R : Int} {a b : List Bk} {k : Nat} (h : R = fdGo k (a.drop k) (b.drop k)) (ha : a.length ≤ k) (hb : k < b.length) : R = k := by
  rw [h, List.drop_of_length_le ha, List.drop_eq_getElem_cons hb]
  rfl
theorem fd_b {R : Int} {a b : List Bk} {k : Nat} (h : R = fdGo k (a.drop k) (b.drop k)) (ha : k < a.length) (hb : b.length ≤ k) : R = k := by
  rw [h, List.drop_of_length_le hb, List.drop_eq_getElem_cons ha]
  rfl

/-- What the reference asks of two good blocks is what the program asks. -/
theorem eqBk_good {m : Nat} {x y : Bk} (hx : GoodB m x) (hy : GoodB m y) : (decide (x.b.n.toNat = y.b.n.toNat) && (decide (x.e = y.e) && eqW x.b.n.toNat x.b.w y.b.w)) = eqBk x y := by
  have ok : ∀ {z : Bk}, GoodB m z → okBr z.b = true := fun {z} hz => by
    unfold okBr
    have h1 := hz.n0
    have h2 := hz.n1
    have h3 := hz.wl
    have h4 : z.b.w.any (badL z.b.n) = false := by
      rw [List.any_eq_false]
      intro k hk
      obtain ⟨h5, h6⟩ := hz.lets k hk
      unfold badL
      simp
      omega
    simp [h1, h2, h3, h4]
  unfold eqBk eqBr
  rw [ok hx, ok hy]
  have h1 := hx.n0
  have h2 := hy.n0
  have e : decide (x.b.n.toNat = y.b.n.toNat) = decide (x.b.n = y.b.n) := by rw [Bool.eq_iff_iff]; simp; omega
  rw [e]
  cases decide (x.b.n = y.b.n) <;> cases decide (x.e = y.e) <;> simp
theorem RdBks.len_le {w : World} {B n c : Nat} {A : Option Addr} {l : List Bk} (h : RdBks w B (.slice A n c) l) : n ≤ 9223372036854775807 ∧ l.length = n := by
  obtain ⟨A', n', c', e, hn, hl, h⟩ := h
  injection e with e1 e2 e3
  subst e2
  exact ⟨hn, hl.out⟩

set_option maxHeartbeats 4000000 in
set_option maxRecDepth 100000 in
theorem difference_any (u v : Value) (a b : List Bk) (w : World) (hl : RdBks w w.heap.size u a) (hm : RdBks w w.heap.size v b) : Calls Try.prog 49 #[u, v] w fun e w' => e = .returned (.int .i64 (fdGo 0 a b)) ∧ Below w.heap.size w w' := by
  obtain ⟨A, c, rfl⟩ := RdN.shape hl
  obtain ⟨A', c', rfl⟩ := RdN.shape hm
  obtain ⟨hna, -⟩ := hl.len_le
  obtain ⟨hnb, -⟩ := hm.len_le
  have HL := Lib.hid hl
  have HM := Lib.hid hm
  generalize hR : fdGo 0 a b = R
  have HR := Lib.hid (show R = fdGo 0 (a.drop 0) (b.drop 0) by rw [← hR]; rfl)
  have HEND := Lib.hid (fun (k : Nat) (h : R = fdGo k (a.drop k) (b.drop k)) => fd_end h)
  have HA := Lib.hid (fun (k : Nat) (h : R = fdGo k (a.drop k) (b.drop k)) => fd_a h)
  have HB := Lib.hid (fun (k : Nat) (h : R = fdGo k (a.drop k) (b.drop k)) => fd_b h)
  clear hl hm hR
  generalize hn : a.length = n at *
  generalize hm : b.length = m at *
  clear hn hm
  by_cases hnm : (m : Int) < (n : Int)
  · skip
    -- the program's first difference; the smaller length is m
    go_enter Try.func49, Try.ntmps49
    go_wp2
    go_loopw [11] (fun i wr => ∃ (k : Nat), k ≤ m ∧ i = .int .i64 k ∧ Hid (R = fdGo k (a.drop k) (b.drop k)) ∧ Hid (Below w.heap.size w wr)) (fun i _ => m - (intOf i).toNat)
    case atStart => exact ⟨0, by omega, rfl, HR.out, Below.refl _ _⟩
    case round =>
      rename_i wr
      obtain ⟨k, hkn, rfl, HR1, HBB⟩ := hrel
      by_cases hlt : k < m
      · have h1 : k < n := by omega
        have h2 : k < m := by omega
        obtain ⟨bx, ox, x, A0, n0, c0, A1, n1, c1, rfl, hbx, hx, hcx, hsx, htx⟩ := (RdBks.below HL.out HBB.out).at_ h1
        obtain ⟨by_, oy, y, A2, n2, c2, A3, n3, c3, rfl, hby, hy, hcy, hsy, hty⟩ := (RdBks.below HM.out HBB.out).at_ h2
        obtain ⟨e0, e1, e2⟩ := hcx.grow3
        obtain ⟨f0, f1, f2⟩ := hcy.grow3
        have HQ := fun X => Lib.hid (implEqualBlocks_any (.agg #[.int .i64 x.b.n, .slice A0 n0 c0, .slice A1 n1 c1]) (.agg #[.int .i64 y.b.n, .slice A2 n2 c2, .slice A3 n3 c3]) x y (wgrow wr X)
          ⟨_, _, rfl, (hsx.more HBB.out.size).up (below_wgrow wr X) (below_wgrow wr X).size, ((htx.more HBB.out.size).below (below_wgrow wr X)).more (below_wgrow wr X).size⟩
          ⟨_, _, rfl, (hsy.more HBB.out.size).up (below_wgrow wr X) (below_wgrow wr X).size, ((hty.more HBB.out.size).below (below_wgrow wr X)).more (below_wgrow wr X).size⟩)
        have HBB2 := HBB
        cases he : eqBk x y
        · have HE := Lib.hid (fd_ne HR1.out hx hy he)
          rw [he] at HQ
          clear he hx hy hcx hcy hsx htx hsy hty HBB
          go_wp2
          refine wp_region_grow (by kernel_rfl) (by kernel_rfl) ?_
          repeat (go_big_quiet_step ((go_at_call 11; exact calls_grow (HQ _).out)))
          refine wpQuiet_nil ?_
          intro w1 hb1
          have HB1 := Lib.hid (HBB2.out.trans (hb1.mono HBB2.out.size))
          clear hb1
          go_wp2
          go_ret
          exact ⟨ret_int HE.out.symm, HB1.out⟩
        · have HE := Lib.hid (fd_eq HR1.out hx hy he)
          rw [he] at HQ
          clear he hx hy hcx hcy hsx htx hsy hty HBB
          go_wp2
          refine wp_region_grow (by kernel_rfl) (by kernel_rfl) ?_
          repeat (go_big_quiet_step ((go_at_call 11; exact calls_grow (HQ _).out)))
          refine wpQuiet_nil ?_
          intro w1 hb1
          have HB1 := Lib.hid (HBB2.out.trans (hb1.mono HBB2.out.size))
          clear hb1
          go_wp2
          exact ⟨⟨k + 1, by omega, by go_num, HE.out, HB1.out⟩, by simp [intOf]; omega⟩
      · have hk : k = m := by omega
        by_cases hnm2 : n = m
        · have HE := Lib.hid (HEND.out k HR1.out (by omega) (by omega))
          have hq : ((n : Int) != (m : Int)) = false := by simp; omega
          clear HR1 hk hnm2
          go_wp2
          go_ret
          exact ⟨ret_int HE.out.symm, HBB.out⟩
        · have HE : Hid (R = (m : Int)) := by
            have h1 : R = (k : Int) := by
              by_cases hk1 : k < n
              · exact HB.out k HR1.out hk1 (by omega)
              · exact HA.out k HR1.out (by omega) (by omega)
            unfold Hid
            rw [h1, hk]
          have hq : ((n : Int) != (m : Int)) = true := by simp; omega
          clear HR1 hk hnm2
          go_wp2
          go_ret
          exact ⟨ret_int HE.out.symm, HBB.out⟩
  · skip
    -- the program's first difference; the smaller length is n
    go_enter Try.func49, Try.ntmps49
    go_wp2
    go_loopw [11] (fun i wr => ∃ (k : Nat), k ≤ n ∧ i = .int .i64 k ∧ Hid (R = fdGo k (a.drop k) (b.drop k)) ∧ Hid (Below w.heap.size w wr)) (fun i _ => n - (intOf i).toNat)
    case atStart => exact ⟨0, by omega, rfl, HR.out, Below.refl _ _⟩
    case round =>
      rename_i wr
      obtain ⟨k, hkn, rfl, HR1, HBB⟩ := hrel
      by_cases hlt : k < n
      · have h1 : k < n := by omega
        have h2 : k < m := by omega
        obtain ⟨bx, ox, x, A0, n0, c0, A1, n1, c1, rfl, hbx, hx, hcx, hsx, htx⟩ := (RdBks.below HL.out HBB.out).at_ h1
        obtain ⟨by_, oy, y, A2, n2, c2, A3, n3, c3, rfl, hby, hy, hcy, hsy, hty⟩ := (RdBks.below HM.out HBB.out).at_ h2
        obtain ⟨e0, e1, e2⟩ := hcx.grow3
        obtain ⟨f0, f1, f2⟩ := hcy.grow3
        have HQ := fun X => Lib.hid (implEqualBlocks_any (.agg #[.int .i64 x.b.n, .slice A0 n0 c0, .slice A1 n1 c1]) (.agg #[.int .i64 y.b.n, .slice A2 n2 c2, .slice A3 n3 c3]) x y (wgrow wr X)
          ⟨_, _, rfl, (hsx.more HBB.out.size).up (below_wgrow wr X) (below_wgrow wr X).size, ((htx.more HBB.out.size).below (below_wgrow wr X)).more (below_wgrow wr X).size⟩
          ⟨_, _, rfl, (hsy.more HBB.out.size).up (below_wgrow wr X) (below_wgrow wr X).size, ((hty.more HBB.out.size).below (below_wgrow wr X)).more (below_wgrow wr X).size⟩)
        have HBB2 := HBB
        cases he : eqBk x y
        · have HE := Lib.hid (fd_ne HR1.out hx hy he)
          rw [he] at HQ
          clear he hx hy hcx hcy hsx htx hsy hty HBB
          go_wp2
          refine wp_region_grow (by kernel_rfl) (by kernel_rfl) ?_
          repeat (go_big_quiet_step ((go_at_call 11; exact calls_grow (HQ _).out)))
          refine wpQuiet_nil ?_
          intro w1 hb1
          have HB1 := Lib.hid (HBB2.out.trans (hb1.mono HBB2.out.size))
          clear hb1
          go_wp2
          go_ret
          exact ⟨ret_int HE.out.symm, HB1.out⟩
        · have HE := Lib.hid (fd_eq HR1.out hx hy he)
          rw [he] at HQ
          clear he hx hy hcx hcy hsx htx hsy hty HBB
          go_wp2
          refine wp_region_grow (by kernel_rfl) (by kernel_rfl) ?_
          repeat (go_big_quiet_step ((go_at_call 11; exact calls_grow (HQ _).out)))
          refine wpQuiet_nil ?_
          intro w1 hb1
          have HB1 := Lib.hid (HBB2.out.trans (hb1.mono HBB2.out.size))
          clear hb1
          go_wp2
          exact ⟨⟨k + 1, by omega, by go_num, HE.out, HB1.out⟩, by simp [intOf]; omega⟩
      · have hk : k = n := by omega
        by_cases hnm2 : n = m
        · have HE := Lib.hid (HEND.out k HR1.out (by omega) (by omega))
          have hq : ((n : Int) != (m : Int)) = false := by simp; omega
          clear HR1 hk hnm2
          go_wp2
          go_ret
          exact ⟨ret_int HE.out.symm, HBB.out⟩
        · have HE : Hid (R = (n : Int)) := by
            have h1 : R = (k : Int) := by
              by_cases hk1 : k < n
              · exact HB.out k HR1.out hk1 (by omega)
              · exact HA.out k HR1.out (by omega) (by omega)
            unfold Hid
            rw [h1, hk]
          have hq : ((n : Int) != (m : Int)) = true := by simp; omega
          clear HR1 hk hnm2
          go_wp2
          go_ret
          exact ⟨ret_int HE.out.symm, HBB.out⟩

set_option maxHeartbeats 4000000 in
set_option maxRecDepth 100000 in
theorem l13First_any (u v : Value) (a b : List Bk) (M : Nat) (ha : ∀ x ∈ a, GoodB M x) (hb : ∀ x ∈ b, GoodB M x) (w : World) (hl : RdBks w w.heap.size u a) (hm : RdBks w w.heap.size v b) : Calls Try.prog 47 #[u, v] w fun e w' => e = .returned (.int .i64 (fdGo 0 a b)) ∧ Below w.heap.size w w' := by
  obtain ⟨A, c, rfl⟩ := RdN.shape hl
  obtain ⟨A', c', rfl⟩ := RdN.shape hm
  obtain ⟨hna, -⟩ := hl.len_le
  obtain ⟨hnb, -⟩ := hm.len_le
  have HGA := Lib.hid ha
  have HGB := Lib.hid hb
  have HL := Lib.hid hl
  have HM := Lib.hid hm
  generalize hR : fdGo 0 a b = R
  have HR := Lib.hid (show R = fdGo 0 (a.drop 0) (b.drop 0) by rw [← hR]; rfl)
  have HEND := Lib.hid (fun (k : Nat) (h : R = fdGo k (a.drop k) (b.drop k)) => fd_end h)
  have HA := Lib.hid (fun (k : Nat) (h : R = fdGo k (a.drop k) (b.drop k)) => fd_a h)
  have HB := Lib.hid (fun (k : Nat) (h : R = fdGo k (a.drop k) (b.drop k)) => fd_b h)
  clear hl hm hR ha hb
  generalize hn : a.length = n at *
  generalize hm : b.length = m at *
  clear hn hm
  go_enter Try.func47, Try.ntmps47
  go_wp2
  go_loopw [5] (fun i wr => ∃ (k : Nat), k ≤ n ∧ k ≤ m ∧ i = .int .i64 k ∧ Hid (R = fdGo k (a.drop k) (b.drop k)) ∧ Hid (Below w.heap.size w wr)) (fun i _ => n - (intOf i).toNat)
  case atStart => exact ⟨0, by omega, by omega, rfl, HR.out, Below.refl _ _⟩
  case round =>
    rename_i wr
    obtain ⟨k, hkn, hkm, rfl, HR1, HBB⟩ := hrel
    by_cases hlt : k < n ∧ k < m
    · obtain ⟨h1, h2⟩ := hlt
      have h1' : ¬ (n : Int) ≤ (k : Int) := by omega
      have h2' : ¬ (m : Int) ≤ (k : Int) := by omega
      have d1 : decide ((k : Int) ≥ (n : Int)) = false := by simp; omega
      have d2 : decide ((k : Int) ≥ (m : Int)) = false := by simp; omega
      have d3 : decide (n ≤ k) = false := by simp; omega
      have d4 : decide (m ≤ k) = false := by simp; omega
      obtain ⟨bx, ox, x, A0, n0, c0, A1, n1, c1, rfl, hbx, hx, hcx, hsx, htx⟩ := (RdBks.below HL.out HBB.out).at_ h1
      obtain ⟨by_, oy, y, A2, n2, c2, A3, n3, c3, rfl, hby, hy, hcy, hsy, hty⟩ := (RdBks.below HM.out HBB.out).at_ h2
      have hgx := HGA.out x (List.mem_of_getElem? hx)
      have hgy := HGB.out y (List.mem_of_getElem? hy)
      have hmx : x.b.n = ((x.b.n.toNat : Nat) : Int) := by have := hgx.n0; omega
      have hmy : y.b.n = ((y.b.n.toNat : Nat) : Int) := by have := hgy.n0; omega
      have HQ := fun X => Lib.hid (l13Equal_any x y x.b.n.toNat y.b.n.toNat hmx hmy (by have := hgx.n1; omega) hgx.lets hgy.lets hgx.wl hgy.wl bx (ox + k * 3) by_ (oy + k * 3) (.slice A0 n0 c0) (.slice A1 n1 c1) (.slice A2 n2 c2) (.slice A3 n3 c3) (wgrow wr X)
        (by rw [← hmx]; exact hcx.grow X) (by rw [← hmy]; exact hcy.grow X) ((hsx.more HBB.out.size).up (below_wgrow wr X) (below_wgrow wr X).size) (((htx.more HBB.out.size).below (below_wgrow wr X)).more (below_wgrow wr X).size) ((hsy.more HBB.out.size).up (below_wgrow wr X) (below_wgrow wr X).size) (((hty.more HBB.out.size).below (below_wgrow wr X)).more (below_wgrow wr X).size))
      rw [eqBk_good hgx hgy] at HQ
      have HBB2 := HBB
      cases he : eqBk x y
      · have HE := Lib.hid (fd_ne HR1.out hx hy he)
        rw [he] at HQ
        clear he hx hy hcx hcy hsx htx hsy hty hgx hgy hmx hmy HBB
        go_wp2
        refine wp_region_grow (by kernel_rfl) (by kernel_rfl) ?_
        repeat (go_big_quiet_step ((go_at_call 31; exact calls_grow (HQ _).out)))
        refine wpQuiet_nil ?_
        intro w1 hb1
        have HB1 := Lib.hid (HBB2.out.trans (hb1.mono HBB2.out.size))
        clear hb1
        go_wp2
        go_ret
        exact ⟨ret_int HE.out.symm, HB1.out⟩
      · have HE := Lib.hid (fd_eq HR1.out hx hy he)
        rw [he] at HQ
        clear he hx hy hcx hcy hsx htx hsy hty hgx hgy hmx hmy HBB
        go_wp2
        refine wp_region_grow (by kernel_rfl) (by kernel_rfl) ?_
        repeat (go_big_quiet_step ((go_at_call 31; exact calls_grow (HQ _).out)))
        refine wpQuiet_nil ?_
        intro w1 hb1
        have HB1 := Lib.hid (HBB2.out.trans (hb1.mono HBB2.out.size))
        clear hb1
        go_wp2
        exact ⟨⟨k + 1, by omega, by omega, by go_num, HE.out, HB1.out⟩, by simp [intOf]; omega⟩
    · by_cases h1 : k < n
      · have h2 : m ≤ k := by omega
        have HE := Lib.hid (HB.out k HR1.out h1 h2)
        have d1 : decide (n ≤ k) = false := by simp; omega
        have d2 : decide (m ≤ k) = true := by simp; omega
        have h2' : ¬ (k : Int) < (m : Int) := by omega
        clear hlt HR1
        go_wp2
        go_quiet (fail)
        go_wp2
        go_ret
        exact ⟨ret_int HE.out.symm, below_drewN HBB.out nq⟩
      · by_cases h2 : k < m
        · have HE := Lib.hid (HA.out k HR1.out (by omega) h2)
          have d1 : decide (n ≤ k) = true := by simp; omega
          have h1' : ¬ (k : Int) < (n : Int) := by omega
          clear hlt HR1
          go_wp2
          go_quiet (fail)
          go_wp2
          go_ret
          exact ⟨ret_int HE.out.symm, below_drewN HBB.out nq⟩
        · have HE := Lib.hid (HEND.out k HR1.out (by omega) (by omega))
          clear hlt HR1
          go_wp2
          go_ret
          exact ⟨ret_int HE.out.symm, HBB.out⟩

end Go.Proofs.Ytfeonaocmnpkcaa
