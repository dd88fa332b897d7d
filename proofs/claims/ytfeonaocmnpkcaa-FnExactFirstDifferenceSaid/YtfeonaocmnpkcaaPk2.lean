/-
  Texts joined: GarL, GarA, GarB, Cont, GarC, GarD, GarE, HRow, GarF, GarG, GarH, GarI, Count, Bks0, Bld, Red, GarJ.
-/
import Derived.Test.YtfeonaocmnpkcaaPk1
import Derived.RegionTactic
import Derived.ChangeAlike
import Derived.Test.YtfeonaocmnpkcaaWords
import Derived.BigRegion
import Derived.Deep.LoopGhost
import Derived.Deep.RegionHeld3
import Derived.Test.YtfeonaocmnpkcaaL10e
/-
  Permutations as lists; own rows written in place. Nothing of the program stands here but the type's number.
-/
namespace Go.Proofs.Ytfeonaocmnpkcaa
set_option linter.unusedVariables false
set_option linter.unusedSimpArgs false
open Go.RowKit

/-- A permutation as the list of its places. -/
def lst (n : Nat) (p : Pm) : List Int := (List.range n).map fun i => ((p.f i : Nat) : Int)
theorem lst_len (n : Nat) (p : Pm) : (lst n p).length = n := by simp [lst]
theorem lst_get {n : Nat} {p : Pm} {k : Nat} (h : k < n) : (lst n p)[k]? = some ((p.f k : Nat) : Int) := by simp [lst, h]
theorem lst_inj {n : Nat} {p q : Pm} (hp : p.On n) (hq : q.On n) (h : lst n p = lst n q) : p = q := Pm.ext' fun i => by
  rcases Nat.lt_or_ge i n with hi | hi
  · have h1 : (lst n p)[i]? = (lst n q)[i]? := by rw [h]
    rw [lst_get hi, lst_get hi] at h1
    injection h1 with h1
    omega
  · rw [hp i hi, hq i hi]
namespace Pm
def inv (p : Pm) : Pm := ⟨p.g, p.f, p.gf, p.fg⟩
theorem On.inv {n : Nat} {p : Pm} (h : On n p) : On n p.inv := fun i hi => h.g hi
/-- One and then the other. -/
def comp (a b : Pm) : Pm := ⟨fun i => b.f (a.f i), fun i => a.g (b.g i), fun i => by simp only [a.fg, b.fg], fun i => by simp only [b.gf, a.gf]⟩
end Pm

theorem Only.drew {lo hi : Nat} {a w : World} (h : Only lo hi a w) : Only lo hi a w.drew := ⟨h.os, h.tape, h.output, h.size, h.block⟩
theorem below_drewN {B : Nat} {a w : World} (h : Below B a w) (n : Nat) : Below B a (w.drewN n) := ⟨h.os, h.tape, h.output, h.size, h.block⟩
/-! ### Own rows -/
theorem OwC.row {w : World} {lo hi E sz n : Nat} {v : Value} {xs : List Value} (h : OwC w lo hi E sz v n xs) (hn : 0 < n) :
    ∃ g cap f, v = .slice (some ⟨g, 0, none⟩) n cap ∧ lo ≤ g ∧ g < hi ∧ w.rowIs g E (cap * sz) f ∧ n ≤ cap ∧ cap ≤ maxLen ∧ ∀ j, j < n * sz → xs[j]? = some (f j) := by
  rcases h.2 with ⟨h0, _⟩ | ⟨g, cap, cur, rfl, hlo, hhi, hg, hnc, hcap, hsz, hx⟩
  · omega
  · have hle : n * sz ≤ cap * sz := Nat.mul_le_mul_right _ hnc
    refine ⟨g, cap, fun i => cur.getD i undef, rfl, hlo, hhi, ⟨cur, hg, hsz, fun i hi => row_getD (by omega)⟩, hnc, hcap, fun j hj => ?_⟩
    rw [← hx, List.getElem?_take, if_pos hj, Array.getElem?_toList]
    exact row_getD (by omega)
theorem OwC.of_rowC {w : World} {lo hi g E cap sz n : Nat} {f : Nat → Value} {xs : List Value} (hr : w.rowIs g E (cap * sz) f) (h1 : lo ≤ g) (h2 : g < hi) (hn : n ≤ cap) (hc : cap ≤ maxLen) (hl : xs.length = n * sz) (hx : ∀ j, j < n * sz → xs[j]? = some (f j)) :
    OwC w lo hi E sz (.slice (some ⟨g, 0, none⟩) n cap) n xs := by
  refine ⟨hl, .inr ?_⟩
  obtain ⟨cur, g1, g2, g3⟩ := hr
  have hle : n * sz ≤ cap * sz := Nat.mul_le_mul_right _ hn
  refine ⟨g, cap, cur, rfl, h1, h2, g1, hn, hc, g2, ?_⟩
  apply List.ext_getElem?
  intro j
  by_cases hj : j < n * sz
  · rw [List.getElem?_take, if_pos hj, Array.getElem?_toList, g3 j (by omega), hx j hj]
  · rw [List.getElem?_eq_none (by simp; omega), List.getElem?_eq_none (by omega)]
/-- A row filled with numbers. -/
theorem OwC.of_fill {w : World} {lo g E n : Nat} {f : Nat → Value} {val : Nat → Int} (hr : w.rowIs g E n f) (h1 : lo ≤ g) (hn : n ≤ maxLen) (hf : ∀ j, j < n → f j = .int .i64 (val j)) :
    OwC w lo w.heap.size E 1 (.slice (some ⟨g, 0, none⟩) n n) n (vI ((List.range n).map val)) := by
  refine OwC.of_rowC (f := f) (by rw [Nat.mul_one]; exact hr) h1 ?_ (Nat.le_refl _) hn (by simp [vI]) (fun j hj => ?_)
  · obtain ⟨cur, g1, _⟩ := hr
    exact (Array.getElem?_eq_some_iff.1 g1).1
  · rw [hf j (by omega)]
    simp [vI, show j < n by omega]
/-- Where the cells of what is read lie. -/
theorem RdI.base {w : World} {B n c : Nat} {A : Option Addr} {l : List Int} (h : RdI w B (.slice A n c) l) (hn : 0 < n) :
    ∃ b off, A = some ⟨b, off, none⟩ ∧ b < B ∧ ∀ k x, l[k]? = some x → w.cell? ⟨b, off + k, none⟩ = some (.int .i64 x) := by
  obtain ⟨A', n', c', e, _, hl, h⟩ := h
  injection e with e1 e2 e3
  subst e1 e2 e3
  obtain ⟨b, off, x, rfl, hb, _, _⟩ := h 0 hn
  refine ⟨b, off, rfl, hb, fun k y hy => ?_⟩
  have hk : k < n := by rw [← hl.out]; exact (List.getElem?_eq_some_iff.1 hy).1
  obtain ⟨b', off', x', e', _, hx', hc'⟩ := h k hk
  injection e' with e'
  injection e' with e1 e2
  subst e1 e2
  rw [hx'] at hy
  injection hy with hy
  subst hy
  exact hc'
/-- A filled-in cell more. -/
theorem fill_next {f : Nat → Value} {val : Nat → Int} {k : Nat} {u : Value} (hf : ∀ j, j < k → f j = .int .i64 (val j)) (hu : u = .int .i64 (val k)) : ∀ j, j < k + 1 → (fun j => if j = k then u else f j) j = .int .i64 (val j) := by
  intro j hj
  show (if j = k then u else f j) = _
  by_cases h : j = k
  · rw [if_pos h, hu, h]
  · rw [if_neg h]; exact hf j (by omega)
def GivesL (w : World) (l : List Int) (e : Ending) (w' : World) : Prop := ∃ v, e = .returned v ∧ OwC w' w.heap.size w'.heap.size 2 1 v l.length (vI l) ∧ Below w.heap.size w w'
theorem GivesL.mk {w w' : World} {n : Nat} {v : Value} {val : Nat → Int} (ho : OwC w' w.heap.size w'.heap.size 2 1 v n (vI ((List.range n).map val))) (hb : Below w.heap.size w w') : GivesL w ((List.range n).map val) (.returned v) w' :=
  ⟨v, rfl, by simpa using ho, hb⟩

end Go.Proofs.Ytfeonaocmnpkcaa

/-
  Small functions on permutations, of the program and of the reference.
-/
namespace Go.Proofs.Ytfeonaocmnpkcaa
set_option linter.unusedVariables false
set_option linter.unusedSimpArgs false
open Go.RowKit

set_option maxHeartbeats 1000000 in
theorem identity_any (n : Nat) (hn : n ≤ 12) (w : World) : Calls Try.prog 101 #[.int .i64 (n : Int)] w (GivesL w (lst n Pm.one)) := by
  have hmk := fun W => run_make_row' (P := Try.prog) 22 2 (.int .i64 0) 8 Try.underlying22 info_int rfl .i64 .i64 n (by omega) (by omega) W
  go_enter Try.func101, Try.ntmps101
  go_wp2
  clear hmk
  go_loopw [9] (fun i wr => ∃ (k : Nat) (f : Nat → Value), k ≤ n ∧ i = .int .i64 k ∧ wr.rowIs w.heap.size 2 n f ∧ Hid (∀ j, j < k → f j = .int .i64 ((j : Nat) : Int)) ∧ Below w.heap.size w wr) (fun i _ => n - (intOf i).toNat)
  case atStart => exact ⟨0, _, Nat.zero_le _, rfl, World.rowIs_made _ _ _ _, fun j hj => absurd hj (by omega), (Below.refl _ _).alloc (Nat.le_refl _) _⟩
  case round =>
    rename_i wr
    obtain ⟨k, f, hk, rfl, hrow, hf, hb⟩ := hrel
    have HB := Lib.hid hb
    have HR := Lib.hid hrow
    by_cases hlt : k < n
    · have d0 := hrow.cell (i := k) hlt
      have g0 := fun i => hrow.frozen i
      clear hb hrow
      go_wp2
      exact ⟨⟨k + 1, _, by omega, by go_num, HR.out.set _ _, fill_next hf.out rfl, HB.out.setCell (Nat.le_refl _) _⟩, by simp [intOf]; omega⟩
    · clear hb hrow
      go_wp2
      go_ret
      obtain rfl : k = n := by omega
      exact GivesL.mk (OwC.of_fill HR.out (Nat.le_refl _) (by unfold maxLen; omega) hf.out) HB.out

set_option maxHeartbeats 1000000 in
theorem compose_any (n : Nat) (hn : n ≤ 12) (a b : Pm) (ha : a.On n) (u v : Value) (w : World) (hu : RdI w w.heap.size u (lst n a)) (hv : RdI w w.heap.size v (lst n b)) :
    Calls Try.prog 92 #[u, v] w (GivesL w (lst n (a.comp b))) := by
  obtain ⟨A, c, rfl⟩ := hu.len
  obtain ⟨A', c', rfl⟩ := hv.len
  simp only [lst_len] at *
  have HU := Lib.hid hu
  have HV := Lib.hid hv
  clear hu hv
  have hmk := fun W => run_make_row' (P := Try.prog) 22 2 (.int .i64 0) 8 Try.underlying22 info_int rfl .i64 .i64 n (by omega) (by omega) W
  go_enter Try.func92, Try.ntmps92
  go_wp2
  clear hmk
  go_loopw [13] (fun i wr => ∃ (k : Nat) (f : Nat → Value), k ≤ n ∧ i = .int .i64 k ∧ wr.rowIs w.heap.size 2 n f ∧ Hid (∀ j, j < k → f j = .int .i64 (((a.comp b).f j : Nat) : Int)) ∧ Below w.heap.size w wr) (fun i _ => n - (intOf i).toNat)
  case atStart => exact ⟨0, _, Nat.zero_le _, rfl, World.rowIs_made _ _ _ _, fun j hj => absurd hj (by omega), (Below.refl _ _).alloc (Nat.le_refl _) _⟩
  case round =>
    rename_i wr
    obtain ⟨k, f, hk, rfl, hrow, hf, hb⟩ := hrel
    have HB := Lib.hid hb
    have HR := Lib.hid hrow
    by_cases hlt : k < n
    · have d0 := hrow.cell (i := k) hlt
      have g0 := fun i => hrow.frozen i
      obtain ⟨b1, o1, rfl, _, hc1⟩ := (HU.out.below hb).base (by omega)
      obtain ⟨b2, o2, rfl, _, hc2⟩ := (HV.out.below hb).base (by omega)
      have hx := ha.lt hlt
      have e0 := hc1 k _ (lst_get hlt)
      have e1 := hc2 (a.f k) _ (lst_get hx)
      have HN := Lib.hid (fill_next hf.out (show (Value.int .i64 ((b.f (a.f k) : Nat) : Int)) = .int .i64 (((a.comp b).f k : Nat) : Int) from rfl))
      clear hb hrow hc1 hc2 hf
      generalize a.f k = x at *
      generalize b.f x = y at *
      go_wp2
      exact ⟨⟨k + 1, _, by omega, by go_num, HR.out.set _ _, HN.out, HB.out.setCell (Nat.le_refl _) _⟩, by simp [intOf]; omega⟩
    · clear hb hrow
      go_wp2
      go_ret
      obtain rfl : k = n := by omega
      exact GivesL.mk (OwC.of_fill HR.out (Nat.le_refl _) (by unfold maxLen; omega) hf.out) HB.out

/- a permutation flipped: flip name · impl.flip function · 12 the counter's slot -/
set_option maxHeartbeats 1000000 in
theorem flip_any (n : Nat) (hn : n ≤ 12) (p : Pm) (hp : p.On n) (v : Value) (w : World) (hv : RdI w w.heap.size v (lst n p)) :
    Calls Try.prog 102 #[v] w (GivesL w (lst n (Pm.flip n p))) := by
  obtain ⟨A, c, rfl⟩ := hv.len
  simp only [lst_len] at *
  have HV := Lib.hid hv
  clear hv
  have hmk := fun W => run_make_row' (P := Try.prog) 22 2 (.int .i64 0) 8 Try.underlying22 info_int rfl .i64 .i64 n (by omega) (by omega) W
  go_enter Try.func102, Try.ntmps102
  go_wp2
  clear hmk
  go_loopw [12] (fun i wr => ∃ (k : Nat) (f : Nat → Value), k ≤ n ∧ i = .int .i64 k ∧ wr.rowIs w.heap.size 2 n f ∧ Hid (∀ j, j < k → f j = .int .i64 (((Pm.flip n p).f j : Nat) : Int)) ∧ Below w.heap.size w wr) (fun i _ => n - (intOf i).toNat)
  case atStart => exact ⟨0, _, Nat.zero_le _, rfl, World.rowIs_made _ _ _ _, fun j hj => absurd hj (by omega), (Below.refl _ _).alloc (Nat.le_refl _) _⟩
  case round =>
    rename_i wr
    obtain ⟨k, f, hk, rfl, hrow, hf, hb⟩ := hrel
    have HB := Lib.hid hb
    have HR := Lib.hid hrow
    by_cases hlt : k < n
    · have d0 := hrow.cell (i := k) hlt
      have g0 := fun i => hrow.frozen i
      obtain ⟨b1, o1, rfl, _, hc1⟩ := (HV.out.below hb).base (by omega)
      have e0 := hc1 (n - 1 - k) _ (lst_get (by omega))
      have hx := hp.lt (show n - 1 - k < n by omega)
      have hi0 : 0 ≤ (n : Int) - 1 - (k : Int) := by omega
      have hi1 : (n : Int) - 1 - (k : Int) < (n : Int) := by omega
      have HN := Lib.hid (fill_next (val := fun j => (((Pm.flip n p).f j : Nat) : Int)) hf.out (show (Value.int .i64 ((n : Int) - 1 - ((p.f (n - 1 - k) : Nat) : Int))) = .int .i64 (((Pm.flip n p).f k : Nat) : Int) by
        congr 1
        show _ = ((Pm.dl n (p.f (Pm.dl n k)) : Nat) : Int)
        rw [Pm.dl_lt hlt, Pm.dl_lt hx]; omega))
      clear hb hrow hc1 hf
      generalize p.f (n - 1 - k) = x at *
      have hx1 : (x : Int) < n := by omega
      go_wp2
      exact ⟨⟨k + 1, _, by omega, by go_num, HR.out.set _ _, HN.out, HB.out.setCell (Nat.le_refl _) _⟩, by simp [intOf]; omega⟩
    · clear hb hrow
      go_wp2
      go_ret
      obtain rfl : k = n := by omega
      exact GivesL.mk (OwC.of_fill HR.out (Nat.le_refl _) (by unfold maxLen; omega) hf.out) HB.out
/- a permutation flipped: l04Flip name · spec.l04Flip function · 5 the counter's slot -/
set_option maxHeartbeats 1000000 in
theorem l04Flip_any (n : Nat) (hn : n ≤ 12) (p : Pm) (hp : p.On n) (v : Value) (w : World) (hv : RdI w w.heap.size v (lst n p)) :
    Calls Try.prog 96 #[v] w (GivesL w (lst n (Pm.flip n p))) := by
  obtain ⟨A, c, rfl⟩ := hv.len
  simp only [lst_len] at *
  have HV := Lib.hid hv
  clear hv
  have hmk := fun W => run_make_row' (P := Try.prog) 22 2 (.int .i64 0) 8 Try.underlying22 info_int rfl .i64 .i64 n (by omega) (by omega) W
  go_enter Try.func96, Try.ntmps96
  go_wp2
  clear hmk
  go_loopw [5] (fun i wr => ∃ (k : Nat) (f : Nat → Value), k ≤ n ∧ i = .int .i64 k ∧ wr.rowIs w.heap.size 2 n f ∧ Hid (∀ j, j < k → f j = .int .i64 (((Pm.flip n p).f j : Nat) : Int)) ∧ Below w.heap.size w wr) (fun i _ => n - (intOf i).toNat)
  case atStart => exact ⟨0, _, Nat.zero_le _, rfl, World.rowIs_made _ _ _ _, fun j hj => absurd hj (by omega), (Below.refl _ _).alloc (Nat.le_refl _) _⟩
  case round =>
    rename_i wr
    obtain ⟨k, f, hk, rfl, hrow, hf, hb⟩ := hrel
    have HB := Lib.hid hb
    have HR := Lib.hid hrow
    by_cases hlt : k < n
    · have d0 := hrow.cell (i := k) hlt
      have g0 := fun i => hrow.frozen i
      obtain ⟨b1, o1, rfl, _, hc1⟩ := (HV.out.below hb).base (by omega)
      have e0 := hc1 (n - 1 - k) _ (lst_get (by omega))
      have hx := hp.lt (show n - 1 - k < n by omega)
      have hi0 : 0 ≤ (n : Int) - 1 - (k : Int) := by omega
      have hi1 : (n : Int) - 1 - (k : Int) < (n : Int) := by omega
      have HN := Lib.hid (fill_next (val := fun j => (((Pm.flip n p).f j : Nat) : Int)) hf.out (show (Value.int .i64 ((n : Int) - 1 - ((p.f (n - 1 - k) : Nat) : Int))) = .int .i64 (((Pm.flip n p).f k : Nat) : Int) by
        congr 1
        show _ = ((Pm.dl n (p.f (Pm.dl n k)) : Nat) : Int)
        rw [Pm.dl_lt hlt, Pm.dl_lt hx]; omega))
      clear hb hrow hc1 hf
      generalize p.f (n - 1 - k) = x at *
      have hx1 : (x : Int) < n := by omega
      go_wp2
      exact ⟨⟨k + 1, _, by omega, by go_num, HR.out.set _ _, HN.out, HB.out.setCell (Nat.le_refl _) _⟩, by simp [intOf]; omega⟩
    · clear hb hrow
      go_wp2
      go_ret
      obtain rfl : k = n := by omega
      exact GivesL.mk (OwC.of_fill HR.out (Nat.le_refl _) (by unfold maxLen; omega) hf.out) HB.out

/- a permutation inverted: invert name · impl.invert function · 11 the counter's slot -/
set_option maxHeartbeats 1000000 in
theorem invert_any (n : Nat) (hn : n ≤ 12) (p : Pm) (hp : p.On n) (v : Value) (w : World) (hv : RdI w w.heap.size v (lst n p)) :
    Calls Try.prog 117 #[v] w (GivesL w (lst n p.inv)) := by
  obtain ⟨A, c, rfl⟩ := hv.len
  simp only [lst_len] at *
  have HV := Lib.hid hv
  clear hv
  have hmk := fun W => run_make_row' (P := Try.prog) 22 2 (.int .i64 0) 8 Try.underlying22 info_int rfl .i64 .i64 n (by omega) (by omega) W
  go_enter Try.func117, Try.ntmps117
  go_wp2
  clear hmk
  go_loopw [11] (fun i wr => ∃ (k : Nat) (f : Nat → Value), k ≤ n ∧ i = .int .i64 k ∧ wr.rowIs w.heap.size 2 n f ∧ Hid (∀ j, j < k → f (p.f j) = .int .i64 ((j : Nat) : Int)) ∧ Below w.heap.size w wr) (fun i _ => n - (intOf i).toNat)
  case atStart => exact ⟨0, _, Nat.zero_le _, rfl, World.rowIs_made _ _ _ _, fun j hj => absurd hj (by omega), (Below.refl _ _).alloc (Nat.le_refl _) _⟩
  case round =>
    rename_i wr
    obtain ⟨k, f, hk, rfl, hrow, hf, hb⟩ := hrel
    have HB := Lib.hid hb
    have HR := Lib.hid hrow
    by_cases hlt : k < n
    · have hx := hp.lt hlt
      have d0 := hrow.cell (i := p.f k) hx
      have g0 := fun i => hrow.frozen i
      obtain ⟨b1, o1, rfl, _, hc1⟩ := (HV.out.below hb).base (by omega)
      have e0 := hc1 k _ (lst_get hlt)
      have HN := Lib.hid (show ∀ j, j < k + 1 → (fun i => if i = p.f k then Value.int .i64 (k : Int) else f i) (p.f j) = .int .i64 ((j : Nat) : Int) from fun j hj => by
        show (if p.f j = p.f k then _ else _) = _
        by_cases h : j = k
        · rw [if_pos (by rw [h]), h]
        · rw [if_neg (fun e => h (p.f_inj e))]; exact hf.out j (by omega))
      clear hb hrow hc1 hf
      generalize hpx : p.f k = x at e0 hx d0
      rw [hpx] at HN
      clear hpx
      go_wp2
      exact ⟨⟨k + 1, _, by omega, by go_num, HR.out.set _ _, HN.out, HB.out.setCell (Nat.le_refl _) _⟩, by simp [intOf]; omega⟩
    · clear hb hrow
      go_wp2
      go_ret
      obtain rfl : k = n := by omega
      refine GivesL.mk (OwC.of_fill HR.out (Nat.le_refl _) (by unfold maxLen; omega) (fun j hj => ?_)) HB.out
      have h := hf.out (p.g j) (hp.glt hj)
      rw [p.fg] at h
      exact h
/- a permutation inverted: l04Inverse name · spec.l04Inverse function · 4 the counter's slot -/
set_option maxHeartbeats 1000000 in
theorem l04Inverse_any (n : Nat) (hn : n ≤ 12) (p : Pm) (hp : p.On n) (v : Value) (w : World) (hv : RdI w w.heap.size v (lst n p)) :
    Calls Try.prog 115 #[v] w (GivesL w (lst n p.inv)) := by
  obtain ⟨A, c, rfl⟩ := hv.len
  simp only [lst_len] at *
  have HV := Lib.hid hv
  clear hv
  have hmk := fun W => run_make_row' (P := Try.prog) 22 2 (.int .i64 0) 8 Try.underlying22 info_int rfl .i64 .i64 n (by omega) (by omega) W
  go_enter Try.func115, Try.ntmps115
  go_wp2
  clear hmk
  go_loopw [4] (fun i wr => ∃ (k : Nat) (f : Nat → Value), k ≤ n ∧ i = .int .i64 k ∧ wr.rowIs w.heap.size 2 n f ∧ Hid (∀ j, j < k → f (p.f j) = .int .i64 ((j : Nat) : Int)) ∧ Below w.heap.size w wr) (fun i _ => n - (intOf i).toNat)
  case atStart => exact ⟨0, _, Nat.zero_le _, rfl, World.rowIs_made _ _ _ _, fun j hj => absurd hj (by omega), (Below.refl _ _).alloc (Nat.le_refl _) _⟩
  case round =>
    rename_i wr
    obtain ⟨k, f, hk, rfl, hrow, hf, hb⟩ := hrel
    have HB := Lib.hid hb
    have HR := Lib.hid hrow
    by_cases hlt : k < n
    · have hx := hp.lt hlt
      have d0 := hrow.cell (i := p.f k) hx
      have g0 := fun i => hrow.frozen i
      obtain ⟨b1, o1, rfl, _, hc1⟩ := (HV.out.below hb).base (by omega)
      have e0 := hc1 k _ (lst_get hlt)
      have HN := Lib.hid (show ∀ j, j < k + 1 → (fun i => if i = p.f k then Value.int .i64 (k : Int) else f i) (p.f j) = .int .i64 ((j : Nat) : Int) from fun j hj => by
        show (if p.f j = p.f k then _ else _) = _
        by_cases h : j = k
        · rw [if_pos (by rw [h]), h]
        · rw [if_neg (fun e => h (p.f_inj e))]; exact hf.out j (by omega))
      clear hb hrow hc1 hf
      generalize hpx : p.f k = x at e0 hx d0
      rw [hpx] at HN
      clear hpx
      go_wp2
      exact ⟨⟨k + 1, _, by omega, by go_num, HR.out.set _ _, HN.out, HB.out.setCell (Nat.le_refl _) _⟩, by simp [intOf]; omega⟩
    · clear hb hrow
      go_wp2
      go_ret
      obtain rfl : k = n := by omega
      refine GivesL.mk (OwC.of_fill HR.out (Nat.le_refl _) (by unfold maxLen; omega) (fun j hj => ?_)) HB.out
      have h := hf.out (p.g j) (hp.glt hj)
      rw [p.fg] at h
      exact h

theorem lst_sw (n : Nat) (k : Nat) (hk : 1 ≤ k) : lst n (Pm.one.behind k hk) = (List.range n).map fun i => ((Pm.sw k i : Nat) : Int) := rfl
set_option maxHeartbeats 1000000 in
theorem letterPerm_any (n k : Nat) (hn : n ≤ 12) (hk : 1 ≤ k) (hkn : k < n) (w : World) : Calls Try.prog 90 #[.int .i64 (n : Int), .int .i64 (k : Int)] w (GivesL w (lst n (Pm.one.behind k hk))) := by
  go_enter Try.func90, Try.ntmps90
  go_wp2_with fail
  refine (identity_any n hn _).mono ?_
  rintro e w1 ⟨v1, rfl, ho, hb⟩
  rw [lst_len] at ho
  obtain ⟨g, cap, f, rfl, hlo, hhi, hrow, hnc, hcap, hf⟩ := ho.row (by omega)
  rw [Nat.mul_one] at hrow
  have hf' : ∀ j, j < n → f j = .int .i64 (j : Int) := fun j hj => by
    have := hf j (by omega)
    simp [vI, lst, hj] at this
    rw [← this]; rfl
  have HF := Lib.hid hf'
  have HR := Lib.hid hrow
  have HB := Lib.hid hb
  obtain ⟨j, rfl⟩ : ∃ j, k = j + 1 := ⟨k - 1, by omega⟩
  have d0 := hrow.cell (i := j) (by omega)
  have d1 := hrow.cell (i := j + 1) (by omega)
  have g0 := fun i => hrow.frozen i
  clear hf hf' hrow hb ho
  go_wp2
  go_ret
  have hr := (HR.out.set j (.int .i64 ((j + 1 : Nat) : Int))).set (j + 1) (.int .i64 (j : Int))
  refine GivesL.mk (n := n) (val := fun i => ((Pm.sw (j + 1) i : Nat) : Int)) (OwC.of_rowC (f := _) (by rw [Nat.mul_one]; exact hr) hlo (by simp; exact hhi) hnc hcap (by simp [vI]) (fun i hi => ?_)) ((HB.out.setCell hlo _).setCell hlo _)
  have hin : i < n := by omega
  simp only [vI, List.getElem?_map, List.getElem?_range hin, Option.map_some]
  congr 1
  by_cases h1 : i = j + 1
  · rw [if_pos h1, h1, Pm.sw_r]; simp
  · rw [if_neg h1]
    by_cases h2 : i = j
    · rw [if_pos h2, h2]
      have := Pm.sw_l (k := j + 1) (by omega)
      rw [Nat.add_sub_cancel] at this
      rw [this]
    · rw [if_neg h2, HF.out i hin, Pm.sw_o h1 (by omega)]

end Go.Proofs.Ytfeonaocmnpkcaa

/-
  Lists of letters of permutations, copies, and the permutations of the reference.
-/
namespace Go.Proofs.Ytfeonaocmnpkcaa
set_option linter.unusedVariables false
set_option linter.unusedSimpArgs false
open Go.RowKit

/-- The places where a permutation goes down, below m. -/
def deU (p : Pm) : Nat → List Int
  | 0 => []
  | i + 1 => if p.f (i + 1) < p.f i then deU p i ++ [(i : Int)] else deU p i
def upL (l : List Int) : List Int := l.map fun x => x + 1
/-- The letters with which a permutation of n can begin. -/
def stL (n : Nat) (p : Pm) : List Int := upL (deU p (n - 1))
theorem deU_len (p : Pm) : ∀ m, (deU p m).length ≤ m
  | 0 => by simp [deU]
  | m + 1 => by
    have := deU_len p m
    unfold deU
    split
    · simp; omega
    · omega
theorem mem_deU {p : Pm} : ∀ {m : Nat} {x : Int}, x ∈ deU p m ↔ ∃ i : Nat, x = i ∧ i < m ∧ p.f (i + 1) < p.f i
  | 0, x => by simp [deU]
  | m + 1, x => by
    unfold deU
    split
    · rename_i h
      rw [List.mem_append, mem_deU]
      constructor
      · rintro (⟨i, e, h1, h2⟩ | h1)
        · exact ⟨i, e, by omega, h2⟩
        · simp at h1; exact ⟨m, h1, by omega, h⟩
      · rintro ⟨i, e, h1, h2⟩
        by_cases him : i = m
        · subst him; exact .inr (by simp [e])
        · exact .inl ⟨i, e, by omega, h2⟩
    · rename_i h
      rw [mem_deU]
      constructor
      · rintro ⟨i, e, h1, h2⟩; exact ⟨i, e, by omega, h2⟩
      · rintro ⟨i, e, h1, h2⟩
        by_cases him : i = m
        · subst him; exact absurd h2 h
        · exact ⟨i, e, by omega, h2⟩
theorem mem_stL {n : Nat} {p : Pm} {x : Int} : x ∈ stL n p ↔ ∃ k : Nat, x = k ∧ 1 ≤ k ∧ k < n ∧ p.start k := by
  unfold stL upL Pm.start
  rw [List.mem_map]
  constructor
  · rintro ⟨y, hy, rfl⟩
    obtain ⟨i, rfl, h1, h2⟩ := mem_deU.1 hy
    exact ⟨i + 1, by simp, by omega, by omega, by simpa using h2⟩
  · rintro ⟨k, rfl, h1, h2, h3⟩
    refine ⟨(k : Int) - 1, mem_deU.2 ⟨k - 1, by omega, by omega, ?_⟩, by omega⟩
    rw [show k - 1 + 1 = k by omega]
    exact h3
theorem stL_len (n : Nat) (p : Pm) : (stL n p).length ≤ n := by
  have := deU_len p (n - 1)
  simp only [stL, upL, List.length_map]
  omega
/-- The first letter that can move from q to p; 0 if there is none. -/
def exP (n : Nat) (p q : Pm) : Int := ((stL n q).find? fun x => !((stL n p.inv).contains x)).getD 0
theorem exP_cases (n : Nat) (p q : Pm) : (exP n p q = 0 ∧ ∀ k, 1 ≤ k → k < n → q.start k → p.fin k) ∨ ∃ k : Nat, exP n p q = k ∧ 1 ≤ k ∧ k < n ∧ q.start k ∧ ¬ p.fin k := by
  unfold exP
  cases h : (stL n q).find? fun x => !((stL n p.inv).contains x)
  · left
    refine ⟨rfl, fun k h1 h2 h3 => ?_⟩
    rw [List.find?_eq_none] at h
    have h4 := h (k : Int) (mem_stL.2 ⟨k, rfl, h1, h2, h3⟩)
    simp only [Bool.not_eq_true', Bool.not_eq_false] at h4
    have h5 : (k : Int) ∈ stL n p.inv := by simpa using h4
    obtain ⟨j, e, _, _, h6⟩ := mem_stL.1 h5
    have : j = k := by omega
    subst this
    exact h6
  · right
    rename_i x
    have h1 := List.mem_of_find?_eq_some h
    have h2 := List.find?_some h
    obtain ⟨k, rfl, h3, h4, h5⟩ := mem_stL.1 h1
    refine ⟨k, rfl, h3, h4, h5, fun hf => ?_⟩
    have h6 : (k : Int) ∈ stL n p.inv := mem_stL.2 ⟨k, rfl, h3, h4, hf⟩
    simp [h6] at h2

/- append([]int64{}, list...): l00Own name · spec.l00Own function -/
set_option maxHeartbeats 1000000 in
theorem l00Own_any (v : Value) (l : List Int) (w : World) (hl : RdI w w.heap.size v l) (hlen : l.length ≤ 1048576) :
    Calls Try.prog 67 #[v] w (GivesL w l) := by
  obtain ⟨A, c, rfl⟩ := hl.len
  obtain ⟨i0, hi, hz0, hz1, hz2⟩ := info_parts info_int
  have HR := Lib.hid (hl.reads).1
  generalize hn : l.length = n at *
  have HN := Lib.hid hn
  clear hl hn
  go_enter Try.func67, Try.ntmps67
  go_wp2_with (at_builtin; refine wpList_append_any _ rfl _ _ _ rfl w.heap.size 2 i0 _ 1 8 Try.underlying22 hi hz0 hz1 hz2 rfl (by decide) _ 0 [] rfl (World.ownsRow_lit _ _ _ (Nat.le_refl _) (by unfold maxLen; omega) rfl) w.heap.size _ n c (vI l) rfl (HR.out.alloc (Nat.le_refl _) _) (vI_one l) (by unfold maxLen; omega) (by omega) (by simp) ?_)
  intro v1 w1 hown hg hat
  have HB := Lib.hid (((Below.refl w.heap.size w).alloc (Nat.le_refl _) _).grown hg (by simp) (fun kk hkk => by simp [Value.ownBlock] at hkk; omega))
  have HO : Hid (w1.ownsRow w.heap.size 2 1 v1 n (vI l)) := by unfold Hid; simpa using hown
  clear hown hg hat
  go_wp2
  go_ret
  exact ⟨_, rfl, by rw [HN.out]; exact OwC.of_own HO.out, HB.out⟩

set_option maxHeartbeats 1000000 in
set_option maxRecDepth 100000 in
theorem cloneI_any (v : Value) (l : List Int) (w : World) (hl : RdI w w.heap.size v l) (hlen : l.length ≤ 1048576) :
    Calls Try.prog 104 #[v] w (GivesL w l) := by
  obtain ⟨A, c, rfl⟩ := hl.len
  obtain ⟨i0, hi, hz0, hz1, hz2⟩ := info_parts info_int
  rcases A with _ | ad
  · have h0 : l = [] := by
      rcases Nat.eq_zero_or_pos l.length with h | h
      · exact List.eq_nil_of_length_eq_zero h
      · obtain ⟨b, off, e, _⟩ := hl.base h
        cases e
    subst h0
    have hq := fun W => Lib.run_eql_slice_nil (P := Try.prog) W 22 2 none 0 c 0 0 Try.underlying22
    clear hl
    go_enter Try.func104, Try.ntmps104
    go_wp2
    go_ret
    exact ⟨_, rfl, ⟨by simp [vI], .inl ⟨rfl, none, 0, rfl⟩⟩, Below.refl _ _⟩
  · have HR := Lib.hid (hl.reads).1
    generalize hn : l.length = n at *
    have HN := Lib.hid hn
    have hq := fun W => Lib.run_eql_slice_nil (P := Try.prog) W 22 2 (some ad) n c 0 0 Try.underlying22
    clear hl hn
    go_enter Try.func104, Try.ntmps104
    go_wp2_with (at_builtin; refine wpList_append_any _ rfl _ _ _ rfl w.heap.size 2 i0 _ 1 8 Try.underlying22 hi hz0 hz1 hz2 rfl (by decide) _ 0 [] rfl (World.ownsRow_lit _ _ _ (Nat.le_refl _) (by unfold maxLen; omega) rfl) w.heap.size _ n c (vI l) rfl (HR.out.alloc (Nat.le_refl _) _) (vI_one l) (by unfold maxLen; omega) (by omega) (by simp) ?_)
    intro v1 w1 hown hg hat
    have HB := Lib.hid (((Below.refl w.heap.size w).alloc (Nat.le_refl _) _).grown hg (by simp) (fun kk hkk => by simp [Value.ownBlock] at hkk; omega))
    have HO : Hid (w1.ownsRow w.heap.size 2 1 v1 n (vI l)) := by unfold Hid; simpa using hown
    clear hown hg hat
    go_wp2
    go_ret
    exact ⟨_, rfl, by rw [HN.out]; exact OwC.of_own HO.out, HB.out⟩

theorem one_snoc (k : Nat) : lst (k + 1) Pm.one = lst k Pm.one ++ [(k : Int)] := by
  unfold lst
  rw [List.range_succ, List.map_append]
  rfl
set_option maxHeartbeats 2000000 in
theorem l04Identity_any (n : Nat) (hn : n ≤ 12) (w : World) : Calls Try.prog 80 #[.int .i64 (n : Int)] w (GivesL w (lst n Pm.one)) := by
  obtain ⟨i0, hi, hz0, hz1, hz2⟩ := info_parts info_int
  go_enter Try.func80, Try.ntmps80
  go_wp2
  go_loopw [3, 4] (fun t i wr => ∃ (k : Nat), k ≤ n ∧ i = .int .i64 k ∧ wr.ownsRow w.heap.size 2 1 t k (vI (lst k Pm.one)) ∧ Below w.heap.size w wr) (fun _ i _ => n - (intOf i).toNat)
  case atStart => exact ⟨0, Nat.zero_le _, rfl, World.ownsRow_lit _ _ _ (Nat.le_refl _) (by unfold maxLen; omega) rfl, (Below.refl _ _).alloc (Nat.le_refl _) _⟩
  case round =>
    rename_i wr
    obtain ⟨k, hk, rfl, hown, hb⟩ := hrel
    have HB := Lib.hid hb
    have HO := Lib.hid hown
    by_cases hlt : k < n
    · clear hb hown
      go_wp2_with (at_builtin; refine wpList_append_own _ rfl _ _ 22 rfl w.heap.size 2 i0 _ 1 8 Try.underlying22 hi hz0 hz1 hz2 rfl (by decide) _ _ _ rfl (HO.out.alloc _) ⟨wr.heap.size, 0, none⟩ 1 1 [.int .i64 (k : Int)] rfl rfl ?c1 ?c2 ?c3 ?c4 ?c5 ?_)
      case c1 => exact new_cells' _ _ (by simp)
      case c2 => intro u hu; simp at hu; subst hu; rfl
      case c3 => unfold maxLen; omega
      case c4 => omega
      case c5 => have := HB.out.size; simp; omega
      intro v' w2 hown2 hgrow2 _
      have HB1 := Lib.hid (below_append' (HB.out.alloc HB.out.size _) (by have := HB.out.size; simp; omega) HO.out (by simp) hgrow2)
      have HO1 : Hid (w2.ownsRow w.heap.size 2 1 v' (k + 1) (vI (lst (k + 1) Pm.one))) := by unfold Hid; rw [one_snoc, vI_append]; exact hown2
      clear hgrow2 hown2 HB HO
      go_wp2
      exact ⟨⟨k + 1, by omega, by go_num, HO1.out, HB1.out⟩, by simp [intOf]; omega⟩
    · clear hb hown
      go_wp2
      go_ret
      obtain rfl : k = n := by omega
      exact ⟨_, rfl, by rw [lst_len]; exact OwC.of_own HO.out, HB.out⟩

/-- The half twist from the front, k of n places. -/
def halfU (n k : Nat) : List Int := (List.range k).map fun i : Nat => (n : Int) - 1 - (i : Int)
theorem halfU_snoc (n k : Nat) : halfU n (k + 1) = halfU n k ++ [(n : Int) - 1 - k] := by
  unfold halfU
  rw [List.range_succ, List.map_append]
  rfl
theorem halfU_len (n k : Nat) : (halfU n k).length = k := by simp [halfU]
theorem halfU_all (n : Nat) : halfU n n = lst n (Pm.half n) := by
  unfold halfU lst
  refine List.map_congr_left fun i hi => ?_
  have hi' : i < n := by simpa using hi
  show _ = ((Pm.dl n i : Nat) : Int)
  rw [Pm.dl_lt hi']
  omega
set_option maxHeartbeats 2000000 in
theorem l04Half_any (n : Nat) (hn : n ≤ 12) (w : World) : Calls Try.prog 82 #[.int .i64 (n : Int)] w (GivesL w (lst n (Pm.half n))) := by
  obtain ⟨i0, hi, hz0, hz1, hz2⟩ := info_parts info_int
  go_enter Try.func82, Try.ntmps82
  go_wp2
  go_loopw [3, 4] (fun t i wr => ∃ (k : Nat), k ≤ n ∧ i = .int .i64 ((n : Int) - 1 - k) ∧ wr.ownsRow w.heap.size 2 1 t k (vI (halfU n k)) ∧ Below w.heap.size w wr) (fun _ i _ => (intOf i + 1).toNat)
  case atStart => exact ⟨0, Nat.zero_le _, by simp, World.ownsRow_lit _ _ _ (Nat.le_refl _) (by unfold maxLen; omega) rfl, (Below.refl _ _).alloc (Nat.le_refl _) _⟩
  case round =>
    rename_i wr
    obtain ⟨k, hk, rfl, hown, hb⟩ := hrel
    have HB := Lib.hid hb
    have HO := Lib.hid hown
    obtain ⟨y, hy⟩ : ∃ y : Int, y = (n : Int) - 1 - k := ⟨_, rfl⟩
    rw [← hy]
    have HY := Lib.hid hy
    have hy0 : -1 ≤ y := by omega
    have hy1 : y ≤ 11 := by omega
    by_cases hlt : k < n
    · have hy2 : 0 ≤ y := by omega
      clear hb hown hy
      go_wp2_with (at_builtin; refine wpList_append_own _ rfl _ _ 22 rfl w.heap.size 2 i0 _ 1 8 Try.underlying22 hi hz0 hz1 hz2 rfl (by decide) _ _ _ rfl (HO.out.alloc _) ⟨wr.heap.size, 0, none⟩ 1 1 [.int .i64 y] rfl rfl ?c1 ?c2 ?c3 ?c4 ?c5 ?_)
      case c1 => exact new_cells' _ _ (by simp)
      case c2 => intro u hu; simp at hu; subst hu; rfl
      case c3 => unfold maxLen; omega
      case c4 => omega
      case c5 => have := HB.out.size; simp; omega
      intro v' w2 hown2 hgrow2 _
      have HB1 := Lib.hid (below_append' (HB.out.alloc HB.out.size _) (by have := HB.out.size; simp; omega) HO.out (by simp) hgrow2)
      have HO1 : Hid (w2.ownsRow w.heap.size 2 1 v' (k + 1) (vI (halfU n (k + 1)))) := by unfold Hid; rw [halfU_snoc, vI_append, ← HY.out]; exact hown2
      clear hgrow2 hown2 HB HO
      go_wp2
      exact ⟨⟨k + 1, by omega, by have := HY.out; rw [show (n : Int) - 1 - ((k + 1 : Nat) : Int) = y - 1 by omega], HO1.out, HB1.out⟩, by simp [intOf]; omega⟩
    · have hy2 : ¬ 0 ≤ y := by omega
      clear hb hown hy
      go_wp2
      go_ret
      obtain rfl : k = n := by omega
      exact ⟨_, rfl, by rw [lst_len, ← halfU_all]; exact OwC.of_own HO.out, HB.out⟩

end Go.Proofs.Ytfeonaocmnpkcaa

/-
  Is a number in a list: of the program and of the reference.
-/
namespace Go.Proofs.Ytfeonaocmnpkcaa
set_option linter.unusedVariables false
set_option linter.unusedSimpArgs false
open Go.RowKit

theorem RdI.len_le {w : World} {B : Nat} {v : Value} {l : List Int} (h : RdI w B v l) : l.length ≤ 9223372036854775807 := by
  obtain ⟨A, n, c, rfl, hn, hl, _⟩ := h
  rw [hl.out]; exact hn
theorem RdI.at_ {w : World} {B : Nat} {A : Option Addr} {n c : Nat} {l : List Int} (h : RdI w B (.slice A n c) l) {k : Nat} (hk : k < n) :
    ∃ b off x, A = some ⟨b, off, none⟩ ∧ b < B ∧ l[k]? = some x ∧ w.cell? ⟨b, off + k, none⟩ = some (.int .i64 x) := by
  obtain ⟨A', n', c', e, hn, hl, h⟩ := h
  injection e with e1 e2 e3
  subst e1 e2 e3
  exact h k hk


set_option maxHeartbeats 1000000 in
theorem l00Has_any (v : Value) (l : List Int) (x : Int) (w : World) (hl : RdI w w.heap.size v l) :
    Calls Try.prog 112 #[v, .int .i64 x] w fun e w' => e = .returned (.bool (l.contains x)) ∧ Below w.heap.size w w' := by
  obtain ⟨A, cp, rfl⟩ := hl.len
  have hbig := hl.len_le
  have HL := Lib.hid hl
  clear hl
  generalize hR : l.contains x = R
  have HR := Lib.hid hR
  clear hR
  generalize hln : l.length = n at *
  have HLN := Lib.hid hln
  clear hln
  go_enter Try.func112, Try.ntmps112
  go_wp2
  go_loopw [5] (fun i wr => ∃ k : Nat, k ≤ n ∧ i = .int .i64 k ∧ Hid (R = (l.drop k).contains x) ∧ Below w.heap.size w wr) (fun i _ => n - (intOf i).toNat)
  case atStart => exact ⟨0, Nat.zero_le _, rfl, HR.out.symm, Below.refl _ _⟩
  case round =>
    rename_i wr
    obtain ⟨k, hk, rfl, hd, hb⟩ := hrel
    by_cases hlt : k < n
    · obtain ⟨b, off, y, rfl, hbb, hlk, hc⟩ := (HL.out.below hb).at_ hlt
      have HB := Lib.hid hb
      by_cases hy : y = x
      · have HT := Lib.hid (show R = true by rw [hd.out, drop_of_get hlk]; simp [hy])
        subst hy
        clear hb hlk hd
        go_wp2
        go_ret
        exact ⟨ret_bool HT.out.symm, HB.out⟩
      · have HT := Lib.hid (show R = (l.drop (k + 1)).contains x by rw [hd.out, drop_of_get hlk]; simp [show ¬ x = y from fun e => hy e.symm])
        have e0 : (y == x) = false := by simpa using hy
        clear hb hlk hd hy
        go_wp2
        exact ⟨⟨k + 1, by omega, by go_num, HT.out, HB.out⟩, by simp [intOf]; omega⟩
    · have HB := Lib.hid hb
      have HT := Lib.hid (show R = false by rw [hd.out, List.drop_of_length_le (by have := HLN.out; omega)]; rfl)
      clear hb
      go_wp2
      go_ret
      exact ⟨ret_bool HT.out.symm, HB.out⟩

set_option maxHeartbeats 1000000 in
theorem indexI_any (v : Value) (l : List Int) (x : Int) (w : World) (hl : RdI w w.heap.size v l) :
    Calls Try.prog 120 #[v, .int .i64 x] w fun e w' => e = .returned (.int .i64 (idxOf (fun y => y == x) l)) ∧ Below w.heap.size w w' := by
  obtain ⟨A, cp, rfl⟩ := hl.len
  have hbig := hl.len_le
  have HL := Lib.hid hl
  clear hl
  generalize hR : idxOf (fun y => y == x) l = R
  have HR := Lib.hid hR
  clear hR
  generalize hln : l.length = n at *
  have HLN := Lib.hid hln
  clear hln
  go_enter Try.func120, Try.ntmps120
  go_wp2
  go_loopw [5, 8] (fun _ i wr => ∃ k : Nat, k ≤ n ∧ i = .int .i64 k ∧ Hid (R = idxFrom (fun y => y == x) k (l.drop k)) ∧ Below w.heap.size w wr) (fun _ i _ => n - (intOf i).toNat)
  case atStart => exact ⟨0, Nat.zero_le _, rfl, HR.out.symm, Below.refl _ _⟩
  case round =>
    rename_i wr
    obtain ⟨k, hk, rfl, hd, hb⟩ := hrel
    by_cases hlt : k < n
    · obtain ⟨b, off, y, rfl, hbb, hlk, hc⟩ := (HL.out.below hb).at_ hlt
      have HB := Lib.hid hb
      by_cases hy : y = x
      · have HT := Lib.hid (show R = (k : Int) by rw [hd.out, drop_of_get hlk]; simp [hy, idxFrom])
        subst hy
        clear hb hlk hd
        go_wp2
        go_ret
        exact ⟨ret_int HT.out.symm, HB.out⟩
      · have HT := Lib.hid (show R = idxFrom (fun y => y == x) (k + 1) (l.drop (k + 1)) by rw [hd.out, drop_of_get hlk]; simp [hy, idxFrom])
        have e0 : (x == y) = false := by simpa using fun e => hy e.symm
        clear hb hlk hd hy
        go_wp2
        exact ⟨⟨k + 1, by omega, by go_num, HT.out, HB.out⟩, by simp [intOf]; omega⟩
    · have HB := Lib.hid hb
      have HT := Lib.hid (show R = -1 by rw [hd.out, List.drop_of_length_le (by have := HLN.out; omega)]; rfl)
      clear hb
      go_wp2
      go_ret
      exact ⟨ret_int HT.out.symm, HB.out⟩
theorem idx_contains (l : List Int) (x : Int) : decide (0 ≤ idxOf (fun y => y == x) l) = l.contains x := by
  rw [Bool.eq_iff_iff]
  have h := idxOf_any (fun y => y == x) l
  simp only [decide_eq_true_eq]
  rw [h]
  simp [List.any_eq_true]
theorem containsI_any (v : Value) (l : List Int) (x : Int) (w : World) (hl : RdI w w.heap.size v l) :
    Calls Try.prog 118 #[v, .int .i64 x] w fun e w' => e = .returned (.bool (l.contains x)) ∧ Below w.heap.size w w' := by
  have hi := idx_contains l x
  have HX := Lib.hid (indexI_any v l x w hl)
  clear hl
  generalize idxOf (fun y => y == x) l = I at hi HX
  rw [← hi]
  clear hi
  go_enter Try.func118, Try.ntmps118
  go_wp2_with fail
  refine HX.out.mono ?_
  rintro e w1 ⟨rfl, hb1⟩
  go_wp2
  all_goals go_ret
  all_goals exact ⟨ret_bool (by simp), hb1⟩

end Go.Proofs.Ytfeonaocmnpkcaa

/-
  Letters of permutations; the first letter that can move; half twists.
-/
namespace Go.Proofs.Ytfeonaocmnpkcaa
set_option linter.unusedVariables false
set_option linter.unusedSimpArgs false
open Go.RowKit

set_option maxHeartbeats 2000000 in
set_option maxRecDepth 100000 in
theorem reverseI_any (n cap g : Nat) (val : Nat → Int) (f : Nat → Value) (w : World) (hn : n ≤ 12) (hnc : n ≤ cap) (hr : w.rowIs g 2 cap f) (hv : ∀ j, j < n → f j = .int .i64 (val j)) :
    Calls Try.prog 103 #[.slice (some ⟨g, 0, none⟩) n cap] w fun e w' => e = .returned (.tuple #[]) ∧ (∃ f', w'.rowIs g 2 cap f' ∧ ∀ j, j < n → f' j = .int .i64 (val (n - 1 - j))) ∧ Only g (g + 1) w w' := by
  have HR0 := Lib.hid hr
  have HV0 := Lib.hid hv
  clear hr hv
  go_enter Try.func103, Try.ntmps103
  go_wp2
  go_loopw [2, 3] (fun a b wr => ∃ (k : Nat) (F : Nat → Value), 2 * k ≤ n + 1 ∧ a = .int .i64 k ∧ b = .int .i64 ((n : Int) - 1 - k) ∧ wr.rowIs g 2 cap F ∧ Hid (∀ j, j < n → F j = .int .i64 (if j < k ∨ n - 1 - j < k then val (n - 1 - j) else val j)) ∧ Only g (g + 1) w wr) (fun a b _ => (intOf b + 1 - intOf a).toNat)
  case atStart => exact ⟨0, f, by omega, rfl, by simp, HR0.out, fun j hj => by rw [if_neg (by omega)]; exact HV0.out j hj, Only.refl _ _ _⟩
  case round =>
    rename_i wr
    obtain ⟨k, F, hk, rfl, rfl, hrow, hF, hon⟩ := hrel
    have HR := Lib.hid hrow
    have HON := Lib.hid hon
    by_cases hlt : (k : Int) < (n : Int) - 1 - k
    · have d0 := hrow.cell (i := k) (by omega)
      have d1 := hrow.cell (i := n - 1 - k) (by omega)
      have g0 := fun i => hrow.frozen i
      rw [hF.out k (by omega), if_neg (by omega)] at d0
      rw [hF.out (n - 1 - k) (by omega), if_neg (by omega)] at d1
      have hb0 : 0 ≤ (n : Int) - 1 - k := by omega
      have hb1 : (n : Int) - 1 - k < n := by omega
      have hk1 : (k : Int) < n := by omega
      clear hrow hon
      go_wp2
      have hne : (⟨g, k, none⟩ : Addr) ≠ ⟨g, n - 1 - k, none⟩ := by intro e; injection e with _ e _; omega
      have hne' : ¬ k = n - 1 - k := by omega
      have hne2 : ¬ n - 1 - k = k := by omega
      go_region
      all_goals
        go_wp2
        have HR2 := ((HR.out.set k (.int .i64 (val (n - 1 - k)))).set (n - 1 - k) (.int .i64 (val k))).drew
        refine ⟨⟨k + 1, _, by omega, by go_num, by rw [show (n : Int) - 1 - ((k + 1 : Nat) : Int) = (n : Int) - 1 - k - 1 by omega], HR2, fun j hj => ?_, ((HON.out.setCell (p := ⟨g, k, none⟩) (Nat.le_refl _) (by simp) _).setCell (p := ⟨g, n - 1 - k, none⟩) (Nat.le_refl _) (by simp) _).drew⟩, by simp [intOf]; omega⟩
        show (if j = n - 1 - k then _ else if j = k then _ else F j) = _
        by_cases h1 : j = n - 1 - k
        · rw [if_pos h1, if_pos (by omega), h1, show n - 1 - (n - 1 - k) = k by omega]
        · rw [if_neg h1]
          by_cases h2 : j = k
          · rw [if_pos h2, if_pos (by omega), h2]
          · rw [if_neg h2, hF.out j hj]
            by_cases h3 : j < k ∨ n - 1 - j < k
            · rw [if_pos h3, if_pos (by omega)]
            · rw [if_neg h3, if_neg (by omega)]
    · clear hrow hon
      go_wp2
      go_end0
      refine ⟨rfl, ⟨F, HR.out, fun j hj => ?_⟩, HON.out⟩
      rw [hF.out j hj]
      by_cases h3 : j < k ∨ n - 1 - j < k
      · rw [if_pos h3]
      · rw [if_neg h3, show n - 1 - j = j by omega]

set_option maxHeartbeats 1000000 in
theorem halfTwist_any (n : Nat) (hn0 : 0 < n) (hn : n ≤ 12) (w : World) : Calls Try.prog 93 #[.int .i64 (n : Int)] w (GivesL w (lst n (Pm.half n))) := by
  go_enter Try.func93, Try.ntmps93
  go_wp2_with fail
  refine (identity_any n hn _).mono ?_
  rintro e w1 ⟨v1, rfl, ho, hb⟩
  rw [lst_len] at ho
  obtain ⟨g, cap, f, rfl, hlo, hhi, hrow, hnc, hcap, hf⟩ := ho.row hn0
  rw [Nat.mul_one] at hrow
  have hf' : ∀ j, j < n → f j = .int .i64 (((fun j : Nat => (j : Int)) j : Int)) := fun j hj => by
    have := hf j (by omega)
    simp [vI, lst, hj] at this
    rw [← this]; rfl
  have HB := Lib.hid hb
  have HQ := Lib.hid (reverseI_any n cap g _ f w1 hn hnc hrow hf')
  clear hf hf' hrow hb ho
  go_wp2_with fail
  refine HQ.out.mono ?_
  rintro e w2 ⟨rfl, ⟨f', hr', hf'⟩, hon⟩
  have HR := Lib.hid hr'
  have HF := Lib.hid hf'
  have HB2 := Lib.hid (HB.out.trans (hon.below hlo HB.out.size))
  have hz := hon.size
  clear hr' hf' hon
  go_wp2
  go_ret
  refine GivesL.mk (n := n) (val := fun i => ((Pm.dl n i : Nat) : Int)) (OwC.of_rowC (f := f') (by rw [Nat.mul_one]; exact HR.out) hlo (by omega) hnc hcap (by simp [vI]) (fun i hi => ?_)) HB2.out
  have hin : i < n := by omega
  rw [HF.out i hin]
  simp only [vI, List.getElem?_map, List.getElem?_range hin, Option.map_some]
  rw [Pm.dl_lt hin]

theorem deU_next (p : Pm) (k : Nat) : deU p (k + 1) = if p.f (k + 1) < p.f k then deU p k ++ [(k : Int)] else deU p k := rfl
set_option maxHeartbeats 4000000 in
set_option maxRecDepth 100000 in
theorem descents_any (n : Nat) (hn0 : 0 < n) (hn : n ≤ 12) (p : Pm) (v : Value) (w : World) (hv : RdI w w.heap.size v (lst n p)) :
    Calls Try.prog 119 #[v] w (GivesL w (deU p (n - 1))) := by
  obtain ⟨A, c, rfl⟩ := hv.len
  simp only [lst_len] at *
  obtain ⟨b, off, rfl, hbb, hcell⟩ := hv.base hn0
  have HC := Lib.hid (fun k (hk : k < n) => hcell k _ (lst_get hk))
  obtain ⟨i0, hi, hz0, hz1, hz2⟩ := info_parts info_int
  clear hv hcell
  go_enter Try.func119, Try.ntmps119
  go_wp2
  go_loopw [3, 4] (fun t i wr => ∃ (k : Nat), k + 1 ≤ n ∧ i = .int .i64 k ∧ wr.ownsRow w.heap.size 2 1 t (deU p k).length (vI (deU p k)) ∧ Below w.heap.size w wr) (fun _ i _ => n - (intOf i).toNat)
  case atStart => exact ⟨0, by omega, rfl, World.ownsRow_lit _ _ _ (Nat.le_refl _) (by unfold maxLen; omega) rfl, (Below.refl _ _).alloc (Nat.le_refl _) _⟩
  case round =>
    rename_i wr
    obtain ⟨k, hk, rfl, hown, hb⟩ := hrel
    have HB := Lib.hid hb
    have HO := Lib.hid hown
    have hlen := deU_len p k
    by_cases hlt : k + 1 < n
    · have e0 : wr.cell? ⟨b, off + k, none⟩ = some (.int .i64 ((p.f k : Nat) : Int)) := (hb.cell (p := ⟨b, off + k, none⟩) hbb).trans (HC.out k (by omega))
      have e1 : wr.cell? ⟨b, off + (k + 1), none⟩ = some (.int .i64 ((p.f (k + 1) : Nat) : Int)) := (hb.cell (p := ⟨b, off + (k + 1), none⟩) hbb).trans (HC.out (k + 1) (by omega))
      have HN := Lib.hid (deU_next p k)
      have hlt1 : (k : Int) + 1 < n := by omega
      clear hb hown
      generalize p.f (k + 1) = y at *
      generalize p.f k = x at *
      by_cases hyx : y < x
      · have hyx1 : (y : Int) < x := by omega
        rw [if_pos hyx] at HN
        go_wp2
        go_quiet (fail)
        go_wp2_with (at_builtin; refine wpList_append_own _ rfl _ _ 22 rfl w.heap.size 2 i0 _ 1 8 Try.underlying22 hi hz0 hz1 hz2 rfl (by decide) _ _ _ rfl (HO.out.alloc _) ⟨wr.heap.size, 0, none⟩ 1 1 [.int .i64 (k : Int)] rfl rfl ?c1 ?c2 ?c3 ?c4 ?c5 ?_)
        case c1 => exact new_cells' _ _ (by simp [World.drewN])
        case c2 => intro u hu; simp at hu; subst hu; rfl
        case c3 => unfold maxLen; omega
        case c4 => omega
        case c5 => have := HB.out.size; simp; omega
        intro v' w2 hown2 hgrow2 _
        have HB1 := Lib.hid (below_append' ((below_drewN HB.out nq).alloc (by have := HB.out.size; simpa using this) _) (by have := HB.out.size; simp; omega) HO.out (by simp) hgrow2)
        have HO1 : Hid (w2.ownsRow w.heap.size 2 1 v' (deU p (k + 1)).length (vI (deU p (k + 1)))) := by unfold Hid; rw [HN.out, vI_append, List.length_append]; exact hown2
        clear hgrow2 hown2 HB HO
        go_wp2
        exact ⟨⟨k + 1, by omega, by go_num, HO1.out, HB1.out⟩, by simp [intOf]; omega⟩
      · have hyx1 : ¬ (y : Int) < x := by omega
        rw [if_neg hyx] at HN
        go_wp2
        go_quiet (fail)
        go_wp2
        exact ⟨⟨k + 1, by omega, by go_num, by rw [HN.out]; exact HO.out, below_drewN HB.out nq⟩, by simp [intOf]; omega⟩
    · have hlt1 : ¬ (k : Int) + 1 < n := by omega
      clear hb hown
      go_wp2
      go_ret
      obtain rfl : k = n - 1 := by omega
      exact ⟨_, rfl, OwC.of_own HO.out, HB.out⟩

end Go.Proofs.Ytfeonaocmnpkcaa

/-
  Start letters, finish letters, the first letter that can move.
-/
namespace Go.Proofs.Ytfeonaocmnpkcaa
set_option linter.unusedVariables false
set_option linter.unusedSimpArgs false
open Go.RowKit

theorem OwC.vI_get {w : World} {lo hi E n : Nat} {v : Value} {l : List Int} (h : OwC w lo hi E 1 v l.length (vI l)) {k : Nat} {x : Int} (hx : l[k]? = some x) : (vI l)[k]? = some (.int .i64 x) := by simp [vI, hx]
theorem upL_len (l : List Int) : (upL l).length = l.length := by simp [upL]
theorem deU_bd {p : Pm} {m k : Nat} {x : Int} (h : (deU p m)[k]? = some x) : 0 ≤ x ∧ x < m := by
  obtain ⟨i, rfl, h1, _⟩ := mem_deU.1 (List.mem_of_getElem? h)
  omega

set_option maxHeartbeats 2000000 in
set_option maxRecDepth 100000 in
theorem startLetters_any (n : Nat) (hn0 : 0 < n) (hn : n ≤ 12) (p : Pm) (v : Value) (w : World) (hv : RdI w w.heap.size v (lst n p)) :
    Calls Try.prog 116 #[v] w (GivesL w (stL n p)) := by
  have HQ := Lib.hid (descents_any n hn0 hn p v w hv)
  obtain ⟨A, c, rfl⟩ := hv.len
  simp only [lst_len] at *
  clear hv
  unfold stL
  have hdl := deU_len p (n - 1)
  have hbd : ∀ (k : Nat) (x : Int), (deU p (n - 1))[k]? = some x → 0 ≤ x ∧ x ≤ 11 := fun k x hx => by have := deU_bd hx; omega
  generalize deU p (n - 1) = l at *
  have HBD := Lib.hid hbd
  clear hbd
  go_enter Try.func116, Try.ntmps116
  go_wp2_with fail
  refine HQ.out.mono ?_
  rintro e w1 ⟨v1, rfl, ho, hb⟩
  generalize hd : l.length = d at *
  have HD := Lib.hid hd
  clear hd
  rcases Nat.eq_zero_or_pos d with h0 | hpos
  · subst h0
    obtain ⟨A1, c1, rfl, -⟩ := ho.cells
    have hl : l = [] := List.eq_nil_of_length_eq_zero HD.out
    subst hl
    have HB := Lib.hid hb
    clear hb ho
    go_wp2
    go_loopw [9] (fun i wr => i = .int .i64 0 ∧ w1 = wr) (fun i _ => 0 - (intOf i).toNat)
    case atStart => exact ⟨rfl, rfl⟩
    case round =>
      rename_i wr
      obtain ⟨rfl, rfl⟩ := hrel
      go_wp2
      go_ret
      exact ⟨_, rfl, ⟨by simp [vI, upL], .inl ⟨rfl, A1, c1, rfl⟩⟩, HB.out⟩
  · obtain ⟨g, cap, f, rfl, hlo, hhi, hrow, hnc, hcap, hf⟩ := ho.row hpos
    rw [Nat.mul_one] at hrow
    have hf' : ∀ j x, l[j]? = some x → f j = .int .i64 x := fun j x hx => by
      have hj : j < d := by rw [← HD.out]; exact (List.getElem?_eq_some_iff.1 hx).1
      have := hf j (by omega)
      simp [vI, hx] at this
      exact this.symm
    have HB := Lib.hid hb
    have HF := Lib.hid hf'
    have HR0 := Lib.hid hrow
    have hcap1 := hcap
    clear hf hf' hrow hb ho
    go_wp2
    go_loopw [9] (fun i wr => ∃ (k : Nat) (F : Nat → Value), k ≤ d ∧ i = .int .i64 k ∧ wr.rowIs g 2 cap F ∧ Hid (∀ j x, l[j]? = some x → F j = .int .i64 (if j < k then x + 1 else x)) ∧ Below w.heap.size w wr) (fun i _ => d - (intOf i).toNat)
    case atStart => exact ⟨0, f, Nat.zero_le _, rfl, HR0.out, fun j x hx => by rw [if_neg (by omega)]; exact HF.out j x hx, HB.out⟩
    case round =>
      rename_i wr
      obtain ⟨k, F, hk, rfl, hrow, hF, hb⟩ := hrel
      have HB1 := Lib.hid hb
      have HR := Lib.hid hrow
      by_cases hlt : k < d
      · obtain ⟨x, hx⟩ : ∃ x, l[k]? = some x := ⟨_, List.getElem?_eq_getElem (by rw [HD.out]; exact hlt)⟩
        obtain ⟨hx0, hx1⟩ := HBD.out k x hx
        have HX := Lib.hid hx
        have d0 := hrow.cell (i := k) (by omega)
        rw [hF.out k x hx, if_neg (by omega)] at d0
        have g0 := fun i => hrow.frozen i
        clear hrow hb hx
        go_wp2
        refine ⟨⟨k + 1, _, by omega, by go_num, HR.out.set _ _, fun j y hy => ?_, HB1.out.setCell hlo _⟩, by simp [intOf]; omega⟩
        show (if j = k then _ else F j) = _
        by_cases h1 : j = k
        · subst h1
          have hxy : x = y := by have := HX.out.symm.trans hy; injection this
          rw [if_pos rfl, if_pos (by omega), hxy]
        · rw [if_neg h1, hF.out j y hy]
          by_cases h2 : j < k
          · rw [if_pos h2, if_pos (by omega)]
          · rw [if_neg h2, if_neg (by omega)]
      · clear hrow hb
        go_wp2
        go_ret
        obtain rfl : k = d := by omega
        have hsz : g < wr.heap.size := by obtain ⟨cur, h1, _⟩ := HR.out; exact (Array.getElem?_eq_some_iff.1 h1).1
        refine ⟨_, rfl, ?_, HB1.out⟩
        rw [upL_len, HD.out]
        refine OwC.of_rowC (f := F) (by rw [Nat.mul_one]; exact HR.out) hlo hsz hnc hcap1 (by simp [vI, upL, HD.out]) (fun j hj => ?_)
        obtain ⟨x, hx⟩ : ∃ x, l[j]? = some x := ⟨_, List.getElem?_eq_getElem (by rw [HD.out]; omega)⟩
        rw [hF.out j x hx, if_pos (by omega)]
        simp [vI, upL, hx]

theorem upL_next (p : Pm) (k : Nat) : upL (deU p (k + 1)) = if p.f (k + 1) < p.f k then upL (deU p k) ++ [(k : Int) + 1] else upL (deU p k) := by
  show upL (if p.f (k + 1) < p.f k then deU p k ++ [(k : Int)] else deU p k) = _
  split
  · simp [upL]
  · rfl
set_option maxHeartbeats 4000000 in
set_option maxRecDepth 100000 in
theorem l04Start_any (n : Nat) (hn0 : 0 < n) (hn : n ≤ 12) (p : Pm) (v : Value) (w : World) (hv : RdI w w.heap.size v (lst n p)) :
    Calls Try.prog 111 #[v] w (GivesL w (stL n p)) := by
  unfold stL
  obtain ⟨A, c, rfl⟩ := hv.len
  simp only [lst_len] at *
  obtain ⟨b, off, rfl, hbb, hcell⟩ := hv.base hn0
  have HC := Lib.hid (fun k (hk : k < n) => hcell k _ (lst_get hk))
  obtain ⟨i0, hi, hz0, hz1, hz2⟩ := info_parts info_int
  clear hv hcell
  go_enter Try.func111, Try.ntmps111
  go_wp2
  go_loopw [3, 4] (fun t i wr => ∃ (k : Nat), k + 1 ≤ n ∧ i = .int .i64 ((k : Int) + 1) ∧ wr.ownsRow w.heap.size 2 1 t (upL (deU p k)).length (vI (upL (deU p k))) ∧ Below w.heap.size w wr) (fun _ i _ => n - (intOf i).toNat)
  case atStart => exact ⟨0, by omega, rfl, World.ownsRow_lit _ _ _ (Nat.le_refl _) (by unfold maxLen; omega) rfl, (Below.refl _ _).alloc (Nat.le_refl _) _⟩
  case round =>
    rename_i wr
    obtain ⟨k, hk, rfl, hown, hb⟩ := hrel
    have HB := Lib.hid hb
    have HO := Lib.hid hown
    have hlen : (upL (deU p k)).length ≤ k := by rw [upL_len]; exact deU_len p k
    by_cases hlt : k + 1 < n
    · have e0 : wr.cell? ⟨b, off + k, none⟩ = some (.int .i64 ((p.f k : Nat) : Int)) := (hb.cell (p := ⟨b, off + k, none⟩) hbb).trans (HC.out k (by omega))
      have e1 : wr.cell? ⟨b, off + (k + 1), none⟩ = some (.int .i64 ((p.f (k + 1) : Nat) : Int)) := (hb.cell (p := ⟨b, off + (k + 1), none⟩) hbb).trans (HC.out (k + 1) (by omega))
      have HN := Lib.hid (upL_next p k)
      have hlt1 : (k : Int) + 1 < n := by omega
      clear hb hown
      generalize p.f (k + 1) = y at *
      generalize p.f k = x at *
      by_cases hyx : y < x
      · have hyx1 : (y : Int) < x := by omega
        rw [if_pos hyx] at HN
        go_wp2
        go_quiet (fail)
        go_wp2_with (at_builtin; refine wpList_append_own _ rfl _ _ 22 rfl w.heap.size 2 i0 _ 1 8 Try.underlying22 hi hz0 hz1 hz2 rfl (by decide) _ _ _ rfl (HO.out.alloc _) ⟨wr.heap.size, 0, none⟩ 1 1 [.int .i64 ((k : Int) + 1)] rfl rfl ?c1 ?c2 ?c3 ?c4 ?c5 ?_)
        case c1 => exact new_cells' _ _ (by simp [World.drewN])
        case c2 => intro u hu; simp at hu; subst hu; rfl
        case c3 => unfold maxLen; omega
        case c4 => omega
        case c5 => have := HB.out.size; simp; omega
        intro v' w2 hown2 hgrow2 _
        have HB1 := Lib.hid (below_append' ((below_drewN HB.out nq).alloc (by have := HB.out.size; simpa using this) _) (by have := HB.out.size; simp; omega) HO.out (by simp) hgrow2)
        have HO1 : Hid (w2.ownsRow w.heap.size 2 1 v' (upL (deU p (k + 1))).length (vI (upL (deU p (k + 1))))) := by unfold Hid; rw [HN.out, vI_append, List.length_append]; exact hown2
        clear hgrow2 hown2 HB HO
        go_wp2
        exact ⟨⟨k + 1, by omega, by go_num, HO1.out, HB1.out⟩, by simp [intOf]; omega⟩
      · have hyx1 : ¬ (y : Int) < x := by omega
        rw [if_neg hyx] at HN
        go_wp2
        go_quiet (fail)
        go_wp2
        exact ⟨⟨k + 1, by omega, by go_num, by rw [HN.out]; exact HO.out, below_drewN HB.out nq⟩, by simp [intOf]; omega⟩
    · have hlt1 : ¬ (k : Int) + 1 < n := by omega
      clear hb hown
      go_wp2
      go_ret
      obtain rfl : k = n - 1 := by omega
      exact ⟨_, rfl, OwC.of_own HO.out, HB.out⟩

set_option maxHeartbeats 1000000 in
theorem l04Finish_any (n : Nat) (hn0 : 0 < n) (hn : n ≤ 12) (p : Pm) (hp : p.On n) (v : Value) (w : World) (hv : RdI w w.heap.size v (lst n p)) :
    Calls Try.prog 110 #[v] w (GivesL w (stL n p.inv)) := by
  have HQ := Lib.hid (l04Inverse_any n hn p hp v w hv)
  obtain ⟨A, c, rfl⟩ := hv.len
  clear hv
  go_enter Try.func110, Try.ntmps110
  go_wp2_with fail
  refine HQ.out.mono ?_
  rintro e w1 ⟨v1, rfl, ho, hb⟩
  have HQ2 := Lib.hid (l04Start_any n hn0 hn p.inv v1 w1 (RdI.of_own ho))
  obtain ⟨A1, c1, rfl, -⟩ := ho.cells
  have HB := Lib.hid hb
  clear hb ho
  go_wp2_with fail
  refine HQ2.out.mono ?_
  rintro e w2 ⟨v2, rfl, ho, hb⟩
  have HO := Lib.hid (ho.wide HB.out.size (Nat.le_refl _))
  obtain ⟨A2, c2, rfl, -⟩ := ho.cells
  have HB2 := Lib.hid (HB.out.trans (hb.mono HB.out.size))
  clear hb ho
  go_wp2
  go_ret
  exact ⟨_, rfl, HO.out, HB2.out⟩

theorem find_next {l : List Int} {q : Int → Bool} {R : Int} {k : Nat} {x : Int} (h : R = ((l.drop k).find? q).getD 0) (hx : l[k]? = some x) (hq : q x = false) : R = ((l.drop (k + 1)).find? q).getD 0 := by
  rw [h, drop_of_get hx, List.find?_cons, hq]
theorem find_here {l : List Int} {q : Int → Bool} {R : Int} {k : Nat} {x : Int} (h : R = ((l.drop k).find? q).getD 0) (hx : l[k]? = some x) (hq : q x = true) : R = x := by
  rw [h, drop_of_get hx, List.find?_cons, hq]
  rfl

/- the first letter with which q can begin and p cannot end, of the reference: l04Extra name · spec.l04Extra function · 7 the counter's slot · l04Finish_any finish letters · l04Start_any start letters · l00Has_any the question · §7, §8 (idle) -/
set_option maxHeartbeats 4000000 in
set_option maxRecDepth 100000 in
theorem l04Extra_any (n : Nat) (hn0 : 0 < n) (hn : n ≤ 12) (p q : Pm) (hp : p.On n) (u v : Value) (w : World) (hu : RdI w w.heap.size u (lst n p)) (hv : RdI w w.heap.size v (lst n q)) :
    Calls Try.prog 97 #[u, v] w fun e w' => e = .returned (.int .i64 (exP n p q)) ∧ Below w.heap.size w w' := by
  have HQ := Lib.hid (l04Finish_any n hn0 hn p hp u w hu)
  have HV := Lib.hid hv
  obtain ⟨A, c, rfl⟩ := hu.len
  obtain ⟨A', c', rfl⟩ := hv.len
  simp only [lst_len] at *
  clear hu hv
  unfold exP
  generalize hR : Option.getD _ (0 : Int) = R
  have HR := Lib.hid hR
  clear hR
  go_enter Try.func97, Try.ntmps97
  go_wp2_with fail
  refine HQ.out.mono ?_
  rintro e w1 ⟨v1, rfl, ho, hb⟩
  have HO1 := Lib.hid (RdI.of_own ho)
  have HB1 := Lib.hid hb
  have HQ2 := Lib.hid (l04Start_any n hn0 hn q _ w1 ((HV.out.below hb).more hb.size))
  obtain ⟨A1, c1, rfl, -⟩ := ho.cells
  clear hb ho
  go_wp2_with fail
  refine HQ2.out.mono ?_
  rintro e w2 ⟨v2, rfl, ho, hb⟩
  have HO2 := Lib.hid (RdI.of_own ho)
  have HP2 := Lib.hid ((HO1.out.below hb).more hb.size)
  have HB2 := Lib.hid (HB1.out.trans (hb.mono HB1.out.size))
  obtain ⟨A2, c2, rfl, -⟩ := ho.cells
  clear hb ho
  generalize stL n q = l at *
  generalize stL n p.inv = fl at *
  have hbig := HO2.out.len_le
  generalize hd : l.length = d at *
  have HD := Lib.hid hd
  clear hd
  go_wp2
  go_loopw [7] (fun i wr => ∃ (k : Nat), k ≤ d ∧ i = .int .i64 k ∧ Hid (R = ((l.drop k).find? fun x => !(fl.contains x)).getD 0) ∧ Below w2.heap.size w2 wr) (fun i _ => d - (intOf i).toNat)
  case atStart => exact ⟨0, Nat.zero_le _, rfl, HR.out.symm, Below.refl _ _⟩
  case round =>
    rename_i wr
    obtain ⟨k, hk, rfl, hd, hb⟩ := hrel
    by_cases hlt : k < d
    · obtain ⟨b, off, x, rfl, hbb, hlk, hc⟩ := (HO2.out.below hb).at_ hlt
      have HB := Lib.hid hb
      have HC := Lib.hid hc
      have HQ3 := Lib.hid (l00Has_any _ fl x wr ((HP2.out.below hb).more hb.size))
      cases hx : fl.contains x
      · have HN := Lib.hid (find_here hd.out hlk (by rw [hx]; rfl))
        rw [hx] at HQ3
        clear hb hlk hx
        go_wp2_with fail
        refine HQ3.out.mono ?_
        rintro e w3 ⟨rfl, hb3⟩
        have hc3 : w3.cell? ⟨b, off + k, none⟩ = some (.int .i64 x) := (hb3.cell (p := ⟨b, off + k, none⟩) (by have := HB.out.size; show b < wr.heap.size; omega)).trans HC.out
        have HB3 := Lib.hid (HB2.out.trans ((HB.out.trans (hb3.mono HB.out.size)).mono HB2.out.size))
        clear hb3
        go_wp2
        go_ret
        exact ⟨ret_int HN.out.symm, HB3.out⟩
      · have HN := Lib.hid (find_next hd.out hlk (by rw [hx]; rfl))
        rw [hx] at HQ3
        clear hb hlk hx
        go_wp2_with fail
        refine HQ3.out.mono ?_
        rintro e w3 ⟨rfl, hb3⟩
        have HB3 := Lib.hid (HB.out.trans (hb3.mono HB.out.size))
        clear hb3
        go_wp2
        exact ⟨⟨k + 1, by omega, by go_num, HN.out, HB3.out⟩, by simp [intOf]; omega⟩
    · have HB := Lib.hid (HB2.out.trans (hb.mono HB2.out.size))
      have HN := Lib.hid (show R = 0 by rw [hd.out, List.drop_of_length_le (by have := HD.out; omega)]; rfl)
      clear hb hd
      go_wp2
      go_ret
      exact ⟨ret_int HN.out.symm, HB.out⟩
/- the same of the program: missing name · impl.missing function -/
set_option maxHeartbeats 4000000 in
set_option maxRecDepth 100000 in
theorem missing_any (n : Nat) (hn0 : 0 < n) (hn : n ≤ 12) (p q : Pm) (hp : p.On n) (u v : Value) (w : World) (hu : RdI w w.heap.size u (lst n p)) (hv : RdI w w.heap.size v (lst n q)) :
    Calls Try.prog 114 #[u, v] w fun e w' => e = .returned (.int .i64 (exP n p q)) ∧ Below w.heap.size w w' := by
  have HQ := Lib.hid (invert_any n hn p hp u w hu)
  have HV := Lib.hid hv
  obtain ⟨A, c, rfl⟩ := hu.len
  obtain ⟨A', c', rfl⟩ := hv.len
  simp only [lst_len] at *
  clear hu hv
  unfold exP
  generalize hR : Option.getD _ (0 : Int) = R
  have HR := Lib.hid hR
  clear hR
  go_enter Try.func114, Try.ntmps114
  go_wp2_with fail
  refine HQ.out.mono ?_
  rintro e w0 ⟨v0, rfl, ho, hb⟩
  have HQ1 := Lib.hid (startLetters_any n hn0 hn p.inv v0 w0 (RdI.of_own ho))
  have HB0 := Lib.hid hb
  obtain ⟨A0, c0, rfl, -⟩ := ho.cells
  clear hb ho
  go_wp2_with fail
  refine HQ1.out.mono ?_
  rintro e w1 ⟨v1, rfl, ho, hb⟩
  have HO1 := Lib.hid (RdI.of_own ho)
  have HB1 := Lib.hid (HB0.out.trans (hb.mono HB0.out.size))
  have HQ2 := Lib.hid (startLetters_any n hn0 hn q _ w1 ((HV.out.below HB1.out).more HB1.out.size))
  obtain ⟨A1, c1, rfl, -⟩ := ho.cells
  clear hb ho
  go_wp2_with fail
  refine HQ2.out.mono ?_
  rintro e w2 ⟨v2, rfl, ho, hb⟩
  have HO2 := Lib.hid (RdI.of_own ho)
  have HP2 := Lib.hid ((HO1.out.below hb).more hb.size)
  have HB2 := Lib.hid (HB1.out.trans (hb.mono HB1.out.size))
  obtain ⟨A2, c2, rfl, -⟩ := ho.cells
  clear hb ho
  generalize stL n q = l at *
  generalize stL n p.inv = fl at *
  have hbig := HO2.out.len_le
  generalize hd : l.length = d at *
  have HD := Lib.hid hd
  clear hd
  go_wp2
  go_loopw [14] (fun i wr => ∃ (k : Nat), k ≤ d ∧ i = .int .i64 k ∧ Hid (R = ((l.drop k).find? fun x => !(fl.contains x)).getD 0) ∧ Below w2.heap.size w2 wr) (fun i _ => d - (intOf i).toNat)
  case atStart => exact ⟨0, Nat.zero_le _, rfl, HR.out.symm, Below.refl _ _⟩
  case round =>
    rename_i wr
    obtain ⟨k, hk, rfl, hd, hb⟩ := hrel
    by_cases hlt : k < d
    · obtain ⟨b, off, x, rfl, hbb, hlk, hc⟩ := (HO2.out.below hb).at_ hlt
      have HB := Lib.hid hb
      have HQ3 := Lib.hid (containsI_any _ fl x wr ((HP2.out.below hb).more hb.size))
      cases hx : fl.contains x
      · have HN := Lib.hid (find_here hd.out hlk (by rw [hx]; rfl))
        rw [hx] at HQ3
        clear hb hlk hx
        go_wp2_with fail
        refine HQ3.out.mono ?_
        rintro e w3 ⟨rfl, hb3⟩
        have HB3 := Lib.hid (HB2.out.trans ((HB.out.trans (hb3.mono HB.out.size)).mono HB2.out.size))
        clear hb3
        go_wp2
        go_ret
        exact ⟨ret_int HN.out.symm, HB3.out⟩
      · have HN := Lib.hid (find_next hd.out hlk (by rw [hx]; rfl))
        rw [hx] at HQ3
        clear hb hlk hx
        go_wp2_with fail
        refine HQ3.out.mono ?_
        rintro e w3 ⟨rfl, hb3⟩
        have HB3 := Lib.hid (HB.out.trans (hb3.mono HB.out.size))
        clear hb3
        go_wp2
        exact ⟨⟨k + 1, by omega, by go_num, HN.out, HB3.out⟩, by simp [intOf]; omega⟩
    · have HB := Lib.hid (HB2.out.trans (hb.mono HB2.out.size))
      have HN := Lib.hid (show R = 0 by rw [hd.out, List.drop_of_length_le (by have := HD.out; omega)]; rfl)
      clear hb hd
      go_wp2
      go_ret
      exact ⟨ret_int HN.out.symm, HB.out⟩

end Go.Proofs.Ytfeonaocmnpkcaa

/-
  A letter in front of a permutation, and behind it, of the reference.
-/
namespace Go.Proofs.Ytfeonaocmnpkcaa
set_option linter.unusedVariables false
set_option linter.unusedSimpArgs false
open Go.RowKit

theorem own_lst {w : World} {lo hi n : Nat} {v : Value} {p : Pm} (ho : OwC w lo hi 2 1 v (lst n p).length (vI (lst n p))) (hn : 0 < n) :
    ∃ g cap f, v = .slice (some ⟨g, 0, none⟩) n cap ∧ lo ≤ g ∧ g < hi ∧ w.rowIs g 2 cap f ∧ n ≤ cap ∧ cap ≤ maxLen ∧ ∀ j, j < n → f j = .int .i64 ((p.f j : Nat) : Int) := by
  rw [lst_len] at ho
  obtain ⟨g, cap, f, rfl, hlo, hhi, hrow, hnc, hcap, hf⟩ := ho.row hn
  rw [Nat.mul_one] at hrow
  refine ⟨g, cap, f, rfl, hlo, hhi, hrow, hnc, hcap, fun j hj => ?_⟩
  have := hf j (by omega)
  simp [vI, lst, hj] at this
  exact this.symm
theorem OwC.of_lst {w : World} {lo g cap n : Nat} {f : Nat → Value} {p : Pm} (hr : w.rowIs g 2 cap f) (h1 : lo ≤ g) (hn : n ≤ cap) (hc : cap ≤ maxLen) (hf : ∀ j, j < n → f j = .int .i64 ((p.f j : Nat) : Int)) :
    OwC w lo w.heap.size 2 1 (.slice (some ⟨g, 0, none⟩) n cap) (lst n p).length (vI (lst n p)) := by
  rw [lst_len]
  refine OwC.of_rowC (f := f) (by rw [Nat.mul_one]; exact hr) h1 ?_ hn hc (by simp [vI, lst]) (fun j hj => ?_)
  · obtain ⟨cur, g1, _⟩ := hr
    exact (Array.getElem?_eq_some_iff.1 g1).1
  · rw [hf j (by omega)]
    simp [vI, lst, show j < n by omega]

set_option maxHeartbeats 2000000 in
set_option maxRecDepth 100000 in
theorem l04Before_any (n k : Nat) (hn : n ≤ 12) (hk : 1 ≤ k) (hkn : k < n) (p : Pm) (v : Value) (w : World) (hv : RdI w w.heap.size v (lst n p)) :
    Calls Try.prog 98 #[.int .i64 (k : Int), v] w (GivesL w (lst n (p.before k hk))) := by
  have HQ := Lib.hid (l00Own_any v _ w hv (by rw [lst_len]; omega))
  obtain ⟨A, c, rfl⟩ := hv.len
  simp only [lst_len] at *
  obtain ⟨b, off, rfl, hbb, hcell⟩ := hv.base (by omega)
  obtain ⟨j, rfl⟩ : ∃ j, k = j + 1 := ⟨k - 1, by omega⟩
  have c0 := hcell j _ (lst_get (by omega))
  have c1 := hcell (j + 1) _ (lst_get hkn)
  clear hv hcell
  go_enter Try.func98, Try.ntmps98
  go_wp2_with fail
  refine HQ.out.mono ?_
  rintro e w1 ⟨v1, rfl, ho, hb⟩
  obtain ⟨g, cap, f, rfl, hlo, hhi, hrow, hnc, hcap, hf⟩ := own_lst ho (by omega)
  have e0 := (hb.cell (p := ⟨b, off + j, none⟩) hbb).trans c0
  have e1 := (hb.cell (p := ⟨b, off + (j + 1), none⟩) hbb).trans c1
  have hne : b ≠ g := by omega
  have d0 := hrow.cell (i := j) (by omega)
  have d1 := hrow.cell (i := j + 1) (by omega)
  have g0 := fun i => hrow.frozen i
  have HR := Lib.hid hrow
  have HF := Lib.hid hf
  have HB := Lib.hid hb
  have HP0 := Lib.hid (show (p.before (j + 1) hk).f j = p.f (j + 1) by show p.f (Pm.sw (j + 1) j) = _; have := Pm.sw_l (k := j + 1) (by omega); rw [Nat.add_sub_cancel] at this; rw [this])
  have HP1 := Lib.hid (show (p.before (j + 1) hk).f (j + 1) = p.f j by show p.f (Pm.sw (j + 1) (j + 1)) = _; rw [Pm.sw_r]; simp)
  have HPO := Lib.hid (show ∀ i, i ≠ j → i ≠ j + 1 → (p.before (j + 1) hk).f i = p.f i from fun i h1 h2 => by show p.f (Pm.sw (j + 1) i) = _; rw [Pm.sw_o h2 (by omega)])
  clear hrow hf hb ho c0 c1
  generalize hx : p.f j = x at e0 HP1
  generalize hy : p.f (j + 1) = y at e1 HP0
  clear hx hy
  go_wp2
  go_ret
  refine ⟨_, rfl, OwC.of_lst ((HR.out.set j (.int .i64 (y : Int))).set (j + 1) (.int .i64 (x : Int))) hlo hnc hcap (fun i hi => ?_), (HB.out.setCell hlo _).setCell hlo _⟩
  show (if i = j + 1 then _ else if i = j then _ else f i) = _
  by_cases h1 : i = j + 1
  · rw [if_pos h1, h1, HP1.out]
  · rw [if_neg h1]
    by_cases h2 : i = j
    · rw [if_pos h2, h2, HP0.out]
    · rw [if_neg h2, HF.out i hi, HPO.out i h2 h1]

set_option maxHeartbeats 4000000 in
set_option maxRecDepth 100000 in
theorem l04Behind_any (n k : Nat) (hn : n ≤ 12) (hk : 1 ≤ k) (hkn : k < n) (p : Pm) (v : Value) (w : World) (hv : RdI w w.heap.size v (lst n p)) :
    Calls Try.prog 79 #[v, .int .i64 (k : Int)] w (GivesL w (lst n (p.behind k hk))) := by
  have HQ := Lib.hid (l00Own_any v _ w hv (by rw [lst_len]; omega))
  obtain ⟨A, c, rfl⟩ := hv.len
  simp only [lst_len] at *
  obtain ⟨b, off, rfl, hbb, hcell⟩ := hv.base (by omega)
  have HC := Lib.hid (fun i (hi : i < n) => hcell i _ (lst_get hi))
  obtain ⟨j, rfl⟩ : ∃ j, k = j + 1 := ⟨k - 1, by omega⟩
  clear hv hcell
  go_enter Try.func79, Try.ntmps79
  go_wp2_with fail
  refine HQ.out.mono ?_
  rintro e w1 ⟨v1, rfl, ho, hb⟩
  obtain ⟨g, cap, f, rfl, hlo, hhi, hrow, hnc, hcap, hf⟩ := own_lst ho (by omega)
  have HR := Lib.hid hrow
  have HF := Lib.hid hf
  have HB := Lib.hid hb
  have hne : b ≠ g := by omega
  have hcapm := hcap
  clear hrow hf hb ho
  go_wp2
  go_loopw [6] (fun i wr => ∃ (m : Nat) (F : Nat → Value), m ≤ n ∧ i = .int .i64 m ∧ wr.rowIs g 2 cap F ∧ Hid (∀ i, i < n → F i = .int .i64 (((if i < m then Pm.sw (j + 1) (p.f i) else p.f i) : Nat) : Int)) ∧ Below w.heap.size w wr) (fun i _ => n - (intOf i).toNat)
  case atStart => exact ⟨0, f, Nat.zero_le _, rfl, HR.out, fun i hi => by rw [if_neg (by omega)]; exact HF.out i hi, HB.out⟩
  case round =>
    rename_i wr
    obtain ⟨m, F, hm, rfl, hrow, hF, hb⟩ := hrel
    have HB1 := Lib.hid hb
    have HR1 := Lib.hid hrow
    by_cases hlt : m < n
    · have e0 := (hb.cell (p := ⟨b, off + m, none⟩) hbb).trans (HC.out m hlt)
      have d0 := hrow.cell (i := m) (by omega)
      rw [hF.out m hlt, if_neg (by omega)] at d0
      have g0 := fun i => hrow.frozen i
      have HN : Hid (∀ F' : Nat → Value, F' m = .int .i64 ((Pm.sw (j + 1) (p.f m) : Nat) : Int) → (∀ i, i ≠ m → F' i = F i) → ∀ i, i < n → F' i = .int .i64 (((if i < m + 1 then Pm.sw (j + 1) (p.f i) else p.f i) : Nat) : Int)) := by
        intro F' h1 h2 i hi
        by_cases h3 : i = m
        · subst h3; rw [if_pos (by omega)]; exact h1
        · rw [h2 i h3, hF.out i hi]
          by_cases h4 : i < m
          · rw [if_pos h4, if_pos (by omega)]
          · rw [if_neg h4, if_neg (by omega)]
      have HFm := Lib.hid (hF.out m hlt)
      rw [if_neg (by omega)] at HFm
      generalize hx : p.f m = x at *
      clear hx hb hrow hF
      by_cases h1 : x = j
      · have b1 : ((x : Int) == ((j + 1 : Nat) : Int) - 1) = true := by simp [h1]
        have b2 : ((x : Int) == ((j + 1 : Nat) : Int)) = false := by simp; omega
        have HV := Lib.hid (show (Pm.sw (j + 1) x : Nat) = j + 1 by rw [h1]; have := Pm.sw_l (k := j + 1) (by omega); rw [Nat.add_sub_cancel] at this; exact this)
        subst h1
        have b3 : ((x : Int) == (x : Int) + 1) = false := by simp; omega
        go_wp2
        refine ⟨⟨m + 1, _, by omega, by go_num, HR1.out.set m _, HN.out _ (by show (if m = m then _ else _) = _; rw [if_pos rfl, HV.out]; rfl) (fun i hi => by show (if i = m then _ else _) = _; rw [if_neg hi]), HB1.out.setCell hlo _⟩, by simp [intOf]; omega⟩
      · by_cases h2 : x = j + 1
        · have HV := Lib.hid (show (Pm.sw (j + 1) x : Nat) = j by rw [h2, Pm.sw_r]; simp)
          subst h2
          have b1 : (((j : Int) + 1) == (j : Int)) = false := by simp; omega
          go_wp2
          refine ⟨⟨m + 1, _, by omega, by go_num, HR1.out.set m _, HN.out _ (by show (if m = m then _ else _) = _; rw [if_pos rfl, HV.out]; try simp) (fun i hi => by show (if i = m then _ else _) = _; rw [if_neg hi]), HB1.out.setCell hlo _⟩, by simp [intOf]; omega⟩
        · have b1 : ((x : Int) == (j : Int)) = false := by simp; omega
          have b2 : ((x : Int) == (j : Int) + 1) = false := by simp; omega
          have HV := Lib.hid (show (Pm.sw (j + 1) x : Nat) = x by rw [Pm.sw_o h2 (by omega)])
          clear h1 h2
          go_wp2
          refine ⟨⟨m + 1, F, by omega, by go_num, HR1.out, HN.out F (by rw [HV.out]; exact HFm.out) (fun i hi => rfl), HB1.out⟩, by simp [intOf]; omega⟩
    · clear hb hrow
      go_wp2
      go_ret
      obtain rfl : m = n := by omega
      refine ⟨_, rfl, OwC.of_lst HR1.out hlo hnc hcapm (fun i hi => ?_), HB1.out⟩
      rw [hF.out i hi, if_pos hi]
      rfl

end Go.Proofs.Ytfeonaocmnpkcaa

/-
  Rows of headers of the call's own; what the headers lead to lies in other blocks.
-/
namespace Go.Proofs.Ytfeonaocmnpkcaa
set_option linter.unusedVariables false
set_option linter.unusedSimpArgs false
open Go.RowKit

/-- A slice value that reads as the integers l, in blocks of which P holds. -/
def RdA (w : World) (P : Nat → Prop) (v : Value) (l : List Int) : Prop :=
  ∃ A n c, v = .slice A n c ∧ n ≤ 9223372036854775807 ∧ Hid (l.length = n) ∧
    ∀ k, k < n → ∃ b off x, A = some ⟨b, off, none⟩ ∧ P b ∧ l[k]? = some x ∧ w.cell? ⟨b, off + k, none⟩ = some (.int .i64 x)
theorem RdA.keep {w w' : World} {P Q : Nat → Prop} {v : Value} {l : List Int} (h : RdA w P v l) (hP : ∀ b, P b → Q b) (hk : ∀ b o, P b → w'.cell? ⟨b, o, none⟩ = w.cell? ⟨b, o, none⟩) : RdA w' Q v l := by
  obtain ⟨A, n, c, rfl, hn, hl, h⟩ := h
  refine ⟨A, n, c, rfl, hn, hl, fun k hk' => ?_⟩
  obtain ⟨b, off, x, h1, h2, h3, h4⟩ := h k hk'
  exact ⟨b, off, x, h1, hP b h2, h3, (hk b _ h2).trans h4⟩
theorem RdA.rd {w : World} {P : Nat → Prop} {B : Nat} {v : Value} {l : List Int} (h : RdA w P v l) (hP : ∀ b, P b → b < B) : RdI w B v l := by
  obtain ⟨A, n, c, rfl, hn, hl, h⟩ := h
  refine ⟨A, n, c, rfl, hn, hl, fun k hk' => ?_⟩
  obtain ⟨b, off, x, h1, h2, h3, h4⟩ := h k hk'
  exact ⟨b, off, x, h1, hP b h2, h3, h4⟩
theorem RdI.rdA {w : World} {P : Nat → Prop} {B : Nat} {v : Value} {l : List Int} (h : RdI w B v l) (hP : ∀ b, b < B → P b) : RdA w P v l := by
  obtain ⟨A, n, c, rfl, hn, hl, h⟩ := h
  refine ⟨A, n, c, rfl, hn, hl, fun k hk' => ?_⟩
  obtain ⟨b, off, x, h1, h2, h3, h4⟩ := h k hk'
  exact ⟨b, off, x, h1, hP b h2, h3, h4⟩
theorem OwC.rdA {w : World} {lo hi E : Nat} {v : Value} {l : List Int} (h : OwC w lo hi E 1 v l.length (vI l)) : RdA w (fun b => lo ≤ b ∧ b < hi) v l := by
  obtain ⟨A, c, rfl, hm, hc⟩ := h.cells
  refine ⟨A, _, c, rfl, hm, rfl, fun k hk => ?_⟩
  obtain ⟨g, rfl, h0, h1, _, hx⟩ := hc k hk
  obtain ⟨x, hlx⟩ : ∃ x, l[k]? = some x := ⟨_, List.getElem?_eq_getElem hk⟩
  exact ⟨g, 0, x, rfl, ⟨h0, h1⟩, hlx, by rw [Nat.zero_add]; exact hx k _ (by omega) (by simp [vI, hlx])⟩
theorem RdA.len {w : World} {P : Nat → Prop} {v : Value} {l : List Int} (h : RdA w P v l) : ∃ A c, v = .slice A l.length c := by
  obtain ⟨A, n, c, rfl, _, hl, _⟩ := h
  exact ⟨A, c, by rw [hl.out]⟩

/-- What a header leads to lies in old blocks other than g. -/
abbrev HOk (w : World) (g : Option Nat) (s : Value) (x : List Int) : Prop := RdA w (fun b => b < w.heap.size ∧ g ≠ some b) s x
def r2 (w : World) (B : Nat) (us : List Value) (x : List Int) : Prop := ∃ s, us = [s] ∧ RdI w B s x
abbrev RdL2 := RdN r2 1
theorem RdL2.below {w w' : World} {B : Nat} {v : Value} {l : List (List Int)} (h : RdL2 w B v l) (hb : Below B w w') : RdL2 w' B v l :=
  RdN.below (fun us x hx => by obtain ⟨s, h1, h2⟩ := hx; exact ⟨s, h1, h2.below hb⟩) h hb
theorem RdL2.more {w : World} {B B' : Nat} {v : Value} {l : List (List Int)} (h : RdL2 w B v l) (hB : B ≤ B') : RdL2 w B' v l :=
  RdN.more (fun us x hx => by obtain ⟨s, h1, h2⟩ := hx; exact ⟨s, h1, h2.more hB⟩) h hB
theorem RdL2.at_ {w : World} {B : Nat} {A : Option Addr} {n c : Nat} {l : List (List Int)} (h : RdL2 w B (.slice A n c) l) {k : Nat} (hk : k < n) :
    ∃ b off x s, A = some ⟨b, off, none⟩ ∧ b < B ∧ l[k]? = some x ∧ w.cell? ⟨b, off + k, none⟩ = some s ∧ RdI w B s x := by
  obtain ⟨A', n', c', e, hn, hl, h⟩ := h
  injection e with e1 e2 e3
  subst e1 e2 e3
  obtain ⟨b, off, x, us, h1, h2, h3, h4, h5, s, rfl, h6⟩ := h k hk
  exact ⟨b, off, x, s, h1, h2, h3, by simpa using h5 0 s rfl, h6⟩
/-- The headers of what is read. -/
theorem RdL2.heads {w : World} {B n c : Nat} {A : Option Addr} {l : List (List Int)} (h : RdL2 w B (.slice A n c) l) :
    ∃ hs : List Value, hs.length = n ∧ l.length = n ∧ Reads w B 1 A n hs ∧ (∀ u ∈ hs, u.oneCell' = true) ∧ ∀ (k : Nat) (s : Value) (x : List Int), hs[k]? = some s → l[k]? = some x → RdI w B s x := by
  have hl : l.length = n := by obtain ⟨A', n', c', e, _, hl, _⟩ := h; injection e with _ e _; rw [e]; exact hl.out
  rcases Nat.eq_zero_or_pos n with h0 | hp
  · subst h0
    exact ⟨[], rfl, hl, ⟨by simp, fun h => absurd h (by omega)⟩, by simp, fun k s x hs => by simp at hs⟩
  · obtain ⟨b, off, _, _, rfl, hb, _, _, _⟩ := h.at_ hp
    have hall : ∀ k, k < n → ∃ s, w.cell? ⟨b, off + k, none⟩ = some s ∧ ∃ x, l[k]? = some x ∧ RdI w B s x := by
      intro k hk
      obtain ⟨b', off', x, s, e, _, h1, h2, h3⟩ := h.at_ hk
      injection e with e
      injection e with e1 e2
      subst e1 e2
      exact ⟨s, h2, x, h1, h3⟩
    refine ⟨(List.range n).map fun k => (w.cell? ⟨b, off + k, none⟩).getD undef, by simp, hl, ⟨by simp, fun _ => ⟨⟨b, off, none⟩, rfl, hb, fun j u hu => ?_⟩⟩, fun u hu => ?_, fun k s x hs hx => ?_⟩
    · have hj : j < n := by have := (List.getElem?_eq_some_iff.1 hu).1; simpa using this
      obtain ⟨s, h1, _⟩ := hall j hj
      have e4 : (⟨b, off, none⟩ : Addr).add j = ⟨b, off + j, none⟩ := by unfold Addr.add; split <;> simp_all
      rw [e4, h1]
      simp [hj, h1] at hu
      rw [hu]
    · simp at hu
      obtain ⟨k, hk, rfl⟩ := hu
      obtain ⟨s, h1, x, _, h2⟩ := hall k hk
      rw [h1]
      obtain ⟨A, n', c', rfl, _⟩ := h2
      rfl
    · have hk : k < n := by have := (List.getElem?_eq_some_iff.1 hs).1; simpa using this
      obtain ⟨s', h1, x', h2, h3⟩ := hall k hk
      simp [hk, h1] at hs
      rw [h2] at hx
      injection hx with hx
      rw [← hs, ← hx]
      exact h3

structure HRow (w : World) (lo : Nat) (v : Value) (L : List (List Int)) (hs : List Value) : Prop where
  own : w.ownsRow lo 22 1 v L.length hs
  rd : ∀ (k : Nat) (s : Value) (x : List Int), hs[k]? = some s → L[k]? = some x → HOk w v.ownBlock s x
theorem HRow.hlen {w : World} {lo : Nat} {v : Value} {L : List (List Int)} {hs : List Value} (h : HRow w lo v L hs) : hs.length = L.length := by rw [h.own.1, Nat.mul_one]
theorem HRow.below {w w' : World} {lo : Nat} {v : Value} {L : List (List Int)} {hs : List Value} (h : HRow w lo v L hs) (hb : Below w.heap.size w w') : HRow w' lo v L hs :=
  ⟨own_below h.own hb, fun k s x h1 h2 => (h.rd k s x h1 h2).keep (fun b hb' => ⟨Nat.lt_of_lt_of_le hb'.1 hb.size, hb'.2⟩) (fun b o hb' => hb.cell (p := ⟨b, o, none⟩) hb'.1)⟩
theorem HRow.one {w : World} {lo : Nat} {v : Value} {L : List (List Int)} {hs : List Value} (h : HRow w lo v L hs) : ∀ u ∈ hs, u.oneCell' = true := fun u hu => by
  obtain ⟨k, hk⟩ := List.mem_iff_getElem?.1 hu
  obtain ⟨x, hx⟩ : ∃ x, L[k]? = some x := ⟨_, List.getElem?_eq_getElem (by rw [← h.hlen]; exact (List.getElem?_eq_some_iff.1 hk).1)⟩
  obtain ⟨A, n, c, rfl, _⟩ := h.rd k u x hk hx
  rfl
theorem HRow.nil {w : World} {lo : Nat} {v : Value} (h : w.ownsRow lo 22 1 v 0 []) : HRow w lo v [] [] := ⟨h, fun k s x h1 => by simp at h1⟩
/-- One header more. -/
theorem HRow.push {w w1 w2 : World} {lo : Nat} {v v' s : Value} {L : List (List Int)} {hs : List Value} {x : List Int} {o : Obj} (h : HRow w lo v L hs) (hb : Below w.heap.size w w1) (hs1 : HOk w1 v.ownBlock s x)
    (hown : w2.ownsRow lo 22 1 v' (L.length + 1) (hs ++ [s])) (hg : (w1.alloc o).grownBy w2 v.ownBlock) (hat : v'.ownBlock = v.ownBlock ∨ v'.ownBlock = some (w1.heap.size + 1)) : HRow w2 lo v' (L ++ [x]) (hs ++ [s]) := by
  have z2 := hg.size
  have ha1 : (w1.alloc o).heap.size = w1.heap.size + 1 := by simp
  rw [ha1] at z2
  have hkeep : ∀ b, b < w1.heap.size → v.ownBlock ≠ some b → w2.heap[b]? = w1.heap[b]? := fun b hb1 hne => by
    rw [hg.block b (by omega) (fun e => hne e.symm)]
    exact ((Below.refl w1.heap.size w1).alloc (Nat.le_refl _) o).block b hb1
  have key : ∀ s y, HOk w1 v.ownBlock s y → HOk w2 v'.ownBlock s y := fun s y hy => hy.keep (fun b hb' => ⟨by omega, by
    rcases hat with e | e
    · rw [e]; exact hb'.2
    · rw [e]; intro e2; injection e2 with e2; omega⟩) (fun b o hb' => World.cell?_of_block (a := ⟨b, o, none⟩) (hkeep b hb'.1 hb'.2))
  refine ⟨by rw [List.length_append]; exact hown, fun k s' y h1 h2 => key _ _ ?_⟩
  have hl := h.hlen
  by_cases hk : k < L.length
  · rw [List.getElem?_append_left (by omega)] at h1
    rw [List.getElem?_append_left hk] at h2
    exact (h.below hb).rd k s' y h1 h2
  · have hk2 : k = L.length := by
      have := (List.getElem?_eq_some_iff.1 h2).1
      simp at this
      omega
    subst hk2
    rw [List.getElem?_append_right (by omega), hl] at h1
    rw [List.getElem?_append_right (Nat.le_refl _)] at h2
    simp at h1 h2
    subst h1 h2
    exact hs1
/-- A header replaced. -/
theorem HRow.set {w : World} {lo g n cap i : Nat} {s : Value} {L : List (List Int)} {hs : List Value} {x : List Int} (h : HRow w lo (.slice (some ⟨g, 0, none⟩) n cap) L hs) (hi : i < L.length) (hs1 : HOk w (some g) s x) :
    HRow (w.setCell ⟨g, i, none⟩ s) lo (.slice (some ⟨g, 0, none⟩) n cap) (L.set i x) (hs.set i s) := by
  have hl := h.hlen
  refine ⟨?_, fun k s' y h1 h2 => ?_⟩
  · refine ⟨by rw [List.length_set, hl, List.length_set, Nat.mul_one], .inr ?_⟩
    rcases h.own.2 with ⟨e, _⟩ | ⟨g', cap', cur, e, hlo, hg, hnc, hcap, hsz, hx⟩
    · cases e
    · injection e with e1 e2 e3
      injection e1 with e1
      injection e1 with e1
      subst e1 e2 e3
      obtain ⟨cur', h1, h2, h3⟩ := (show w.rowIs g 22 (cap * 1) (fun i => cur.getD i undef) from ⟨cur, hg, hsz, fun i hi => row_getD (by omega)⟩).set i s
      refine ⟨g, cap, cur', by rw [List.length_set], hlo, h1, by rw [List.length_set]; exact hnc, hcap, h2, ?_⟩
      have hx' : ∀ j, j < L.length → hs[j]? = some (cur.getD j undef) := fun j hj => by
        rw [← hx, List.getElem?_take, if_pos (by omega), Array.getElem?_toList]
        exact row_getD (by omega)
      apply List.ext_getElem?
      intro j
      rw [List.length_set]
      by_cases hj : j < L.length
      · rw [List.getElem?_take, if_pos (by omega), Array.getElem?_toList, h3 j (by omega)]
        by_cases hij : j = i
        · subst hij
          rw [List.getElem?_set_self (by omega)]
          simp
        · rw [List.getElem?_set_ne (by omega), hx' j hj]
          simp [hij]
      · rw [List.getElem?_eq_none (by simp; omega), List.getElem?_eq_none (by simp; omega)]
  · have hkeep : ∀ s' y, HOk w (some g) s' y → HOk (w.setCell ⟨g, i, none⟩ s) (some g) s' y := fun s' y hy => hy.keep (fun b hb' => ⟨by simpa using hb'.1, hb'.2⟩) (fun b o hb' => World.cell?_setCell_other _ _ _ _ (by intro e; injection e with e _ _; exact hb'.2 (by rw [e])))
    refine hkeep _ _ ?_
    by_cases hik : i = k
    · subst hik
      rw [List.getElem?_set_self (by omega)] at h1
      rw [List.getElem?_set_self hi] at h2
      injection h1 with h1
      injection h2 with h2
      subst h1 h2
      exact hs1
    · rw [List.getElem?_set_ne hik] at h1 h2
      exact h.rd k s' y h1 h2
theorem HRow.read {w : World} {lo : Nat} {v : Value} {L : List (List Int)} {hs : List Value} (h : HRow w lo v L hs) : RdL2 w w.heap.size v L := by
  have hl := h.hlen
  have ho : OwC w lo w.heap.size 22 1 v L.length hs := OwC.of_own h.own
  obtain ⟨A, c, rfl, hm, hc⟩ := ho.cells
  refine ⟨A, _, c, rfl, hm, rfl, fun k hk => ?_⟩
  obtain ⟨g, rfl, h0, h1, _, hx⟩ := hc k hk
  obtain ⟨x, hlx⟩ : ∃ x, L[k]? = some x := ⟨_, List.getElem?_eq_getElem hk⟩
  obtain ⟨s, hls⟩ : ∃ s, hs[k]? = some s := ⟨_, List.getElem?_eq_getElem (by omega)⟩
  refine ⟨g, 0, x, [s], rfl, h1, hlx, rfl, fun j u hu => ?_, s, rfl, (h.rd k s x hls hlx).rd fun b hb => hb.1⟩
  rcases j with _ | j
  · simp at hu
    subst hu
    rw [Nat.mul_one, Nat.zero_add, Nat.add_zero]
    exact hx k s (by omega) hls
  · simp at hu
/-- The cells of the headers. -/
theorem HRow.cell {w : World} {lo g n cap k : Nat} {s : Value} {L : List (List Int)} {hs : List Value} (h : HRow w lo (.slice (some ⟨g, 0, none⟩) n cap) L hs) (hk : hs[k]? = some s) : w.cell? ⟨g, k, none⟩ = some s ∧ ∀ i, w.frozen? ⟨g, i, none⟩ = false := by
  have hl := h.hlen
  obtain ⟨A, c, e, hm, hc⟩ := (OwC.of_own h.own : OwC w lo w.heap.size 22 1 _ L.length hs).cells
  injection e with e1 e2 e3
  have hkl : k < L.length := by rw [← hl]; exact (List.getElem?_eq_some_iff.1 hk).1
  obtain ⟨g', e', h0, h1, h2, hx⟩ := hc k hkl
  rw [← e1] at e'
  injection e' with e'
  injection e' with e'
  subst e'
  exact ⟨hx k s (by omega) hk, h2⟩
theorem HRow.shape {w : World} {lo : Nat} {v : Value} {L : List (List Int)} {hs : List Value} (h : HRow w lo v L hs) (hp : 0 < L.length) : ∃ g cap, v = .slice (some ⟨g, 0, none⟩) L.length cap ∧ lo ≤ g ∧ g < w.heap.size := by
  obtain ⟨g, cap, e, h1, h2⟩ := h.own.form hp
  exact ⟨g, cap, e, h1, h2⟩
theorem HRow.shape' {w : World} {lo : Nat} {v : Value} {L : List (List Int)} {hs : List Value} (h : HRow w lo v L hs) : ∃ A c, v = .slice A L.length c := by
  obtain ⟨A, c, e, _⟩ := (OwC.of_own h.own : OwC w lo w.heap.size 22 1 _ L.length hs).cells
  exact ⟨A, c, e⟩

theorem RdA.and {w : World} {P Q : Nat → Prop} {v : Value} {l : List Int} (h : RdA w P v l) (k : RdA w Q v l) : RdA w (fun b => P b ∧ Q b) v l := by
  obtain ⟨A, n, c, rfl, hn, hl, h⟩ := h
  obtain ⟨A', n', c', e, hn', hl', k⟩ := k
  injection e with e1 e2 e3
  subst e1 e2 e3
  refine ⟨A, n, c, rfl, hn, hl, fun j hj => ?_⟩
  obtain ⟨b, off, x, rfl, h2, h3, h4⟩ := h j hj
  obtain ⟨b', off', x', e', k2, k3, k4⟩ := k j hj
  injection e' with e'
  injection e' with e1 e2
  subst e1 e2
  exact ⟨b, off, x, rfl, ⟨h2, k2⟩, h3, h4⟩
/-- What the headers lead to lies from block lb on. -/
def HLow (w : World) (lb : Nat) (L : List (List Int)) (hs : List Value) : Prop := ∀ (k : Nat) (s : Value) (x : List Int), hs[k]? = some s → L[k]? = some x → RdA w (fun b => lb ≤ b) s x
theorem HLow.nil {w : World} {lb : Nat} : HLow w lb [] [] := fun k s x h => by simp at h
theorem HLow.of {w : World} {lb lb' : Nat} {L : List (List Int)} {hs : List Value} (h : HLow w lb L hs) (hb : lb' ≤ lb) : HLow w lb' L hs := fun k s x h1 h2 => (h k s x h1 h2).keep (fun b hb' => Nat.le_trans hb hb') (fun _ _ _ => rfl)
theorem HLow.below {w w' : World} {lo lb : Nat} {v : Value} {L : List (List Int)} {hs : List Value} (h : HLow w lb L hs) (hr : HRow w lo v L hs) (hb : Below w.heap.size w w') : HLow w' lb L hs :=
  fun k s x h1 h2 => ((h k s x h1 h2).and (hr.rd k s x h1 h2)).keep (fun b hb' => hb'.1) (fun b o hb' => hb.cell (p := ⟨b, o, none⟩) hb'.2.1)
theorem HLow.push {w w1 w2 : World} {lo lb : Nat} {v s : Value} {L : List (List Int)} {hs : List Value} {x : List Int} {o : Obj} (h : HLow w lb L hs) (hr : HRow w lo v L hs) (hb : Below w.heap.size w w1) (hs1 : HOk w1 v.ownBlock s x) (hs2 : RdA w1 (fun b => lb ≤ b) s x)
    (hg : (w1.alloc o).grownBy w2 v.ownBlock) : HLow w2 lb (L ++ [x]) (hs ++ [s]) := by
  have hkeep : ∀ b, b < w1.heap.size → v.ownBlock ≠ some b → w2.heap[b]? = w1.heap[b]? := fun b hb1 hne => by
    have z2 := hg.size
    rw [hg.block b (by simp; omega) (fun e => hne e.symm)]
    exact ((Below.refl w1.heap.size w1).alloc (Nat.le_refl _) o).block b hb1
  have key : ∀ s y, HOk w1 v.ownBlock s y → RdA w1 (fun b => lb ≤ b) s y → RdA w2 (fun b => lb ≤ b) s y := fun s y h1 h2 => (h1.and h2).keep (fun b hb' => hb'.2) (fun b o hb' => World.cell?_of_block (a := ⟨b, o, none⟩) (hkeep b hb'.1.1 hb'.1.2))
  intro k s' y h1 h2
  have hl := hr.hlen
  by_cases hk : k < L.length
  · rw [List.getElem?_append_left (by omega)] at h1
    rw [List.getElem?_append_left hk] at h2
    exact key _ _ ((hr.below hb).rd k s' y h1 h2) (h.below hr hb k s' y h1 h2)
  · have hk2 : k = L.length := by
      have := (List.getElem?_eq_some_iff.1 h2).1
      simp at this
      omega
    subst hk2
    rw [List.getElem?_append_right (by omega), hl] at h1
    rw [List.getElem?_append_right (Nat.le_refl _)] at h2
    simp at h1 h2
    subst h1 h2
    exact key _ _ hs1 hs2
/-- A store into a block that is none of these. -/
theorem HRow.far {w : World} {lo lb : Nat} {v : Value} {L : List (List Int)} {hs : List Value} (h : HRow w lo v L hs) (hl : HLow w lb L hs) {p : Addr} (h1 : p.block < lo) (h2 : p.block < lb) (u : Value) : HRow (w.setCell p u) lo v L hs ∧ HLow (w.setCell p u) lb L hs := by
  refine ⟨⟨?_, fun k s x g1 g2 => ((h.rd k s x g1 g2).and (hl k s x g1 g2)).keep (fun b hb => ⟨by simpa using hb.1.1, hb.1.2⟩) (fun b o hb => World.cell?_setCell_other _ _ _ _ (by intro e; subst e; exact absurd h2 (by simpa using hb.2)))⟩,
    fun k s x g1 g2 => (hl k s x g1 g2).keep (fun b hb => hb) (fun b o hb => World.cell?_setCell_other _ _ _ _ (by intro e; subst e; exact absurd h2 (by simpa using hb)))⟩
  refine ⟨h.own.1, ?_⟩
  rcases h.own.2 with h3 | ⟨g, cap, cur, rfl, hlo, hg, h3⟩
  · exact .inl h3
  · refine .inr ⟨g, cap, cur, rfl, hlo, ?_, h3⟩
    have hne : g ≠ p.block := by omega
    exact (((Below.refl g.succ w |> fun _ => (Only.refl p.block (p.block + 1) w).setCell (p := p) (Nat.le_refl _) (Nat.lt_succ_self _) u).block g (Array.getElem?_eq_some_iff.1 hg).1 (by omega))).trans hg
theorem HRow.lo {w : World} {lo lo' : Nat} {v : Value} {L : List (List Int)} {hs : List Value} (h : HRow w lo v L hs) (hl : lo' ≤ lo) : HRow w lo' v L hs := by
  refine ⟨⟨h.own.1, ?_⟩, h.rd⟩
  rcases h.own.2 with h3 | ⟨g, cap, cur, rfl, hlo, h3⟩
  · exact .inl h3
  · exact .inr ⟨g, cap, cur, rfl, by omega, h3⟩

end Go.Proofs.Ytfeonaocmnpkcaa

/-
  Factors settled, of the reference.
-/
namespace Go.Proofs.Ytfeonaocmnpkcaa
set_option linter.unusedVariables false
set_option linter.unusedSimpArgs false
open Go.RowKit

theorem info_hd : (Try.prog.info? 22).map (fun i => (i.zero, i.size, i.bytes)) = some (some (.slice none 0 0), 1, 24) := by kernel_rfl
/-- The lists of permutations. -/
abbrev lstL (n : Nat) (L : List Pm) : List (List Int) := L.map (lst n)
theorem lstL_get {n : Nat} {L : List Pm} {k : Nat} {x : List Int} (h : (lstL n L)[k]? = some x) : ∃ p, L[k]? = some p ∧ x = lst n p := by
  rw [List.getElem?_map] at h
  cases hp : L[k]? with
  | none => rw [hp] at h; cases h
  | some p => rw [hp] at h; injection h with h; exact ⟨p, rfl, h.symm⟩
theorem lit_reads {w : World} {s : Value} {T : TypeId} : Reads (w.alloc (.cells #[s] T)) (w.heap.size + 1) 1 (some ⟨w.heap.size, 0, none⟩) 1 [s] :=
  ⟨by simp, fun _ => ⟨_, rfl, by simp, new_cells' T [s] rfl⟩⟩
theorem take_next {α : Type} {l : List α} {k : Nat} {x : α} (h : l[k]? = some x) : l.take (k + 1) = l.take k ++ [x] := by rw [List.take_add_one, h]; rfl

set_option maxHeartbeats 4000000 in
set_option maxRecDepth 100000 in
theorem l04FlipAll_any (n : Nat) (hn : n ≤ 12) (L : List Pm) (hL : AllOn n L) (hlen : L.length ≤ 5000) (v : Value) (w : World) (hv : RdL2 w w.heap.size v (lstL n L)) :
    Calls Try.prog 81 #[v] w fun e w' => ∃ v' hs, e = .returned v' ∧ HRow w' w.heap.size v' (lstL n (flipL n L)) hs ∧ HLow w' w.heap.size (lstL n (flipL n L)) hs ∧ Below w.heap.size w w' := by
  obtain ⟨A, c, rfl⟩ := hv.shape
  rw [List.length_map] at hv
  rw [List.length_map]
  obtain ⟨i0, hi, hy0, hy1, hy2⟩ := info_parts info_hd
  generalize hK : lstL n (flipL n L) = K
  have hKl : K.length = L.length := by rw [← hK]; simp [lstL, flipL]
  have hKx : ∀ (k : Nat) (p : Pm), L[k]? = some p → K[k]? = some (lst n (Pm.flip n p)) := fun k p h => by rw [← hK]; show ((L.map (Pm.flip n)).map (lst n))[k]? = _; rw [List.getElem?_map, List.getElem?_map, h]; rfl
  generalize hm : L.length = m at *
  have HV := Lib.hid hv
  have HK := Lib.hid hKx
  have HKL := Lib.hid hKl
  have HM := Lib.hid hm
  clear hv hKx hKl hK hm
  go_enter Try.func81, Try.ntmps81
  go_wp2
  go_loopw [3, 4] (fun t i wr => ∃ (k : Nat) (hs : List Value), k ≤ m ∧ i = .int .i64 k ∧ Hid (HRow wr w.heap.size t (K.take k) hs) ∧ Hid (HLow wr w.heap.size (K.take k) hs) ∧ Below w.heap.size w wr) (fun _ i _ => m - (intOf i).toNat)
  case atStart => exact ⟨0, [], Nat.zero_le _, rfl, HRow.nil (World.ownsRow_lit _ _ _ (Nat.le_refl _) (by unfold maxLen; omega) rfl), HLow.nil, (Below.refl _ _).alloc (Nat.le_refl _) _⟩
  case round =>
    rename_i wr
    obtain ⟨k, hs, hk, rfl, HH, HL, hb⟩ := hrel
    have HB := Lib.hid hb
    have hKk : (K.take k).length = k := by rw [List.length_take, HKL.out]; omega
    by_cases hlt : k < m
    · obtain ⟨b, off, x, s, rfl, hbb, hx, hc, hs1⟩ := (HV.out.below hb).at_ hlt
      obtain ⟨p, hp, rfl⟩ := lstL_get hx
      obtain ⟨As, cs, rfl⟩ := hs1.len
      have HQ := Lib.hid (l04Flip_any n hn p (hL p (List.mem_of_getElem? hp)) _ wr (hs1.more hb.size))
      have HN := Lib.hid (take_next (HK.out k p hp))
      have HKK := Lib.hid hKk
      clear hb hx hs1 hp hKk
      go_wp2_with fail
      refine HQ.out.mono ?_
      rintro e w1 ⟨v1, rfl, ho, hb1⟩
      have HO := Lib.hid (ho.rdA)
      obtain ⟨A1, c1, rfl, -⟩ := ho.cells
      have HB1 := Lib.hid hb1
      have hz1 := hb1.size
      have hzr := HB.out.size
      clear hb1 ho hc
      go_wp2_with (at_builtin; refine wpList_append_any _ rfl _ _ _ rfl w.heap.size 22 i0 _ 1 24 Try.underlying84 hi hy0 hy1 hy2 rfl (by decide) _ _ _ rfl ((own_below HH.out.own HB1.out).alloc _) (w1.heap.size + 1) _ 1 1 [_] rfl lit_reads (by intro u hu; simp at hu; subst hu; rfl) (by rw [HKK.out]; unfold maxLen; omega) (by rw [HKK.out]; omega) (by simp; omega) ?_)
      intro v2 w2 hown2 hg2 hat2
      have HH2 := Lib.hid (HRow.push HH.out HB1.out (HO.out.keep (fun b hb => ⟨hb.2, by intro e; have := (HH.out.own.lt b e).2; omega⟩) (fun _ _ _ => rfl)) (by rw [List.length_take]; exact hown2) hg2 (by simpa using hat2))
      have HB2 := Lib.hid (((HB.out.trans (HB1.out.mono hzr)).alloc (by omega) _).grown hg2 (by simp; omega) (fun kk hkk => (HH.out.own.lt kk hkk).1))
      have HL2 := Lib.hid (HLow.push HL.out HH.out HB1.out (HO.out.keep (fun b hb => ⟨hb.2, by intro e; have := (HH.out.own.lt b e).2; omega⟩) (fun _ _ _ => rfl)) (HO.out.keep (fun b hb => (by omega : w.heap.size ≤ b)) (fun _ _ _ => rfl)) hg2)
      rw [← HN.out] at HH2 HL2
      clear hown2 hg2 hat2
      go_wp2
      exact ⟨⟨k + 1, _, by omega, by go_num, HH2.out, HL2.out, HB2.out⟩, by simp [intOf]; omega⟩
    · have HHR := Lib.hid HH.out
      have HLR := Lib.hid HL.out
      clear hb
      obtain ⟨At, ct, hte⟩ := HH.out.shape'
      go_wp2
      go_ret
      obtain rfl : k = m := by omega
      have h := HHR.out
      have h2 := HLR.out
      rw [List.take_of_length_le (by rw [HKL.out]; omega)] at h h2
      exact ⟨_, hs, rfl, h, h2, HB.out⟩

end Go.Proofs.Ytfeonaocmnpkcaa

/-
  Factors settled, of the reference: l04Settle.
-/
namespace Go.Proofs.Ytfeonaocmnpkcaa
set_option linter.unusedVariables false
set_option linter.unusedSimpArgs false
open Go.RowKit

/-- No letter can move at the first j places. -/
def Pref (n : Nat) (L : List Pm) (j : Nat) : Prop := ∀ (i : Nat) (p q : Pm), i < j → L[i]? = some p → L[i + 1]? = some q → ∀ k, 1 ≤ k → k < n → q.start k → p.fin k
theorem sett_of_pref {n : Nat} : ∀ {L : List Pm} {j : Nat}, L.length ≤ j + 1 → Pref n L j → Sett n L
  | [], _, _, _ => sett_nil n
  | [p], _, _, _ => sett_single n p
  | p :: q :: L, j, hj, h => by
    simp only [List.length_cons] at hj
    refine sett_cons.2 ⟨h 0 p q (by omega) rfl rfl, ?_⟩
    obtain ⟨j, rfl⟩ : ∃ i, j = i + 1 := ⟨j - 1, by omega⟩
    exact sett_of_pref (j := j) (by simp only [List.length_cons]; omega) fun i a b hi h1 h2 => h (i + 1) a b (by omega) h1 h2
theorem Pref.next {n : Nat} {L : List Pm} {j : Nat} {p q : Pm} (h : Pref n L j) (hp : L[j]? = some p) (hq : L[j + 1]? = some q) (hs : ∀ k, 1 ≤ k → k < n → q.start k → p.fin k) : Pref n L (j + 1) := by
  intro i a b hi h1 h2
  by_cases hij : i = j
  · subst hij
    rw [hp] at h1
    rw [hq] at h2
    injection h1 with h1
    injection h2 with h2
    subst h1 h2
    exact hs
  · exact h i a b (by omega) h1 h2
theorem mv_at {n : Nat} : ∀ {L : List Pm} {i : Nat} {p q : Pm} {k : Nat} (hk : 1 ≤ k), k < n → q.start k → ¬ p.fin k → L[i]? = some p → L[i + 1]? = some q → Mv n L ((L.set i (p.behind k hk)).set (i + 1) (q.before k hk))
  | [], i, _, _, _, _, _, _, _, h, _ => by simp at h
  | [a], i, _, _, _, _, _, _, _, _, h => by simp at h
  | a :: b :: L, 0, p, q, k, hk, hn, hs, hf, h1, h2 => by
    simp at h1 h2
    subst h1 h2
    exact .here k hk hn hs hf
  | a :: b :: L, i + 1, p, q, k, hk, hn, hs, hf, h1, h2 => by
    rw [List.set_cons_succ, List.set_cons_succ]
    exact .cons (mv_at (L := b :: L) (i := i) hk hn hs hf (by simpa using h1) (by simpa using h2))
theorem lstL_set (n : Nat) (L : List Pm) (i : Nat) (p : Pm) : (lstL n L).set i (lst n p) = lstL n (L.set i p) := (List.map_set ..).symm
theorem exP_zero {n : Nat} {p q : Pm} (h : exP n p q = 0) : ∀ k, 1 ≤ k → k < n → q.start k → p.fin k := by
  rcases exP_cases n p q with ⟨_, h1⟩ | ⟨k, h1, h2, _⟩
  · exact h1
  · rw [h1] at h; omega
theorem exP_pos {n : Nat} {p q : Pm} (h : exP n p q ≠ 0) : ∃ k : Nat, exP n p q = k ∧ 1 ≤ k ∧ k < n ∧ q.start k ∧ ¬ p.fin k := by
  rcases exP_cases n p q with ⟨h1, _⟩ | h1
  · exact absurd h1 h
  · exact h1
/-- Neither the identity nor the half twist. -/
def isMid (n : Nat) (p : Pm) : Bool := !decide (lst n p = lst n Pm.one) && !decide (lst n p = lst n (Pm.half n))
def isTw (n : Nat) (p : Pm) : Bool := !decide (lst n p = lst n Pm.one) && decide (lst n p = lst n (Pm.half n))
theorem mid_nfm {n a b : Nat} (hn : 2 ≤ n) {F : List Pm} (hF : Good n F) (ho : AllOn n F) : (nfm n a F b).filter (isMid n) = F ∧ ((nfm n a F b).filter (isTw n)).length = a := by
  have h1 : isMid n (Pm.half n) = false := by simp [isMid]
  have h2 : isMid n Pm.one = false := by simp [isMid]
  have h3 : isTw n (Pm.half n) = true := by
    unfold isTw
    rw [Bool.and_eq_true]
    refine ⟨?_, by simp⟩
    simp only [Bool.not_eq_true', decide_eq_false_iff_not]
    intro e
    exact half_ne hn (lst_inj (Pm.on_half n) (Pm.on_one n) e)
  have h4 : isTw n Pm.one = false := by simp [isTw]
  have hm : ∀ p ∈ F, isMid n p = true := fun p hp => by
    obtain ⟨g1, g2⟩ := hF p hp
    unfold isMid
    rw [Bool.and_eq_true]
    simp only [Bool.not_eq_true', decide_eq_false_iff_not]
    exact ⟨fun e => g1 (lst_inj (ho p hp) (Pm.on_one n) e), fun e => g2 (lst_inj (ho p hp) (Pm.on_half n) e)⟩
  have ht : ∀ p ∈ F, isTw n p = false := fun p hp => by
    obtain ⟨g1, g2⟩ := hF p hp
    unfold isTw
    rw [Bool.and_eq_false_iff]
    right
    simp only [decide_eq_false_iff_not]
    exact fun e => g2 (lst_inj (ho p hp) (Pm.on_half n) e)
  unfold nfm
  constructor
  · rw [List.filter_append, List.filter_append, List.filter_replicate, List.filter_replicate, h1, h2, List.filter_eq_self.2 hm]
    simp
  · rw [List.filter_append, List.filter_append, List.filter_replicate, List.filter_replicate, h3, h4]
    rw [List.filter_eq_nil_iff.2 (fun p hp => by rw [ht p hp]; decide)]
    simp

set_option maxHeartbeats 1000000 in
theorem l04Is_any (u v : Value) (a b : List Int) (w : World) (hu : RdI w w.heap.size u a) (hv : RdI w w.heap.size v b) :
    Calls Try.prog 99 #[u, v] w fun e w' => e = .returned (.bool (decide (a = b))) ∧ Below w.heap.size w w' := by
  have HQ := Lib.hid (specSame_any u v a b w _ hu hv (Nat.le_refl _))
  obtain ⟨A, c, rfl⟩ := hu.len
  obtain ⟨A', c', rfl⟩ := hv.len
  clear hu hv
  go_enter Try.func99, Try.ntmps99
  go_wp2_with fail
  refine HQ.out.mono ?_
  rintro e w1 ⟨rfl, hb⟩
  have HB := Lib.hid hb
  clear hb
  go_wp2
  go_ret
  exact ⟨rfl, HB.out⟩

set_option maxHeartbeats 8000000 in
set_option maxRecDepth 100000 in
theorem l04Settle_any (n : Nat) (hn2 : 2 ≤ n) (hn : n ≤ 12) (L : List Pm) (hL : AllOn n L) (hlen : L.length ≤ 5000) (v : Value) (w : World) (hv : RdL2 w w.heap.size v (lstL n L)) :
    Calls Try.prog 83 #[.int .i64 (n : Int), v] w fun e w' => ∃ (a : Nat) (F : List Pm) (A : Option Addr) (c : Nat), e = .returned (.tuple #[.int .i64 (a : Int), .slice A F.length c]) ∧ Nrm n L a F ∧ Below w.heap.size w w' := by
  obtain ⟨A, c, rfl⟩ := hv.shape
  rw [List.length_map] at hv
  rw [List.length_map]
  obtain ⟨i0, hi, hy0, hy1, hy2⟩ := info_parts info_hd
  obtain ⟨hs, hhl, -, hrd, hone, hrx⟩ := hv.heads
  have HS := Lib.hid hhl
  have HRD := Lib.hid hrd
  have HX := Lib.hid hrx
  have HON := Lib.hid hone
  generalize hm : L.length = m at *
  have HM := Lib.hid hm
  clear hv hhl hrd hrx hone hm
  go_enter Try.func83, Try.ntmps83
  go_wp2_with (at_builtin; refine wpList_append_any _ rfl _ _ _ rfl w.heap.size 22 i0 _ 1 24 Try.underlying84 hi hy0 hy1 hy2 rfl (by decide) _ 0 [] rfl (World.ownsRow_lit _ _ _ (Nat.le_refl _) (by unfold maxLen; omega) rfl) w.heap.size _ m c hs rfl (HRD.out.alloc (Nat.le_refl _) _) HON.out (by unfold maxLen; omega) (by omega) (by simp) ?_)
  intro v1 w1 hown hg hat
  have HB0 := Lib.hid (((Below.refl w.heap.size w).alloc (Nat.le_refl _) _).grown hg (by simp) (fun kk hkk => by simp [Value.ownBlock] at hkk; omega))
  have HH0 : Hid (HRow w1 w.heap.size v1 (lstL n L) hs) := by
    have ho : w1.ownsRow w.heap.size 22 1 v1 m hs := by simpa using hown
    refine ⟨by rw [List.length_map, HM.out]; exact ho, fun k s x h1 h2 => ?_⟩
    exact (HX.out k s x h1 h2 |>.below HB0.out).rdA fun b hb => ⟨by have := HB0.out.size; omega, fun e => by have := (ho.lt b e).1; omega⟩
  have hz1 := HB0.out.size
  clear hown hg hat
  obtain ⟨A1, c1, rfl⟩ : ∃ A1 c1, v1 = .slice A1 m c1 := by obtain ⟨A1, c1, e⟩ := HH0.out.shape'; rw [List.length_map, HM.out] at e; exact ⟨A1, c1, e⟩
  go_wp2
  go_loopg [7] (mes n L + 1) (fun gk ch wr => ∃ (cb : Bool) (M : List Pm) (gs : List Value), ch = .bool cb ∧ Hid (M.length = m) ∧ Hid (HRow wr w.heap.size (.slice A1 m c1) (lstL n M) gs) ∧ Hid (Rch n L M) ∧ Hid (cb = false → Sett n M) ∧ Hid (gk = if cb then mes n M + 1 else 0) ∧ Below w.heap.size w wr)
  case atStart => exact ⟨true, L, hs, rfl, HM.out, HH0.out, .refl, fun h => (by cases h), rfl, HB0.out⟩
  case round =>
    obtain ⟨cb, M, gs, rfl, HML, HH, HR, HSE, HGK, hb⟩ := hrel
    have HB := Lib.hid hb
    clear hb
    cases cb
    · -- settled
      have HSE2 := Lib.hid (HSE.out rfl)
      have HGL := Lib.hid (show gs.length = m by rw [HH.out.hlen, List.length_map, HML.out])
      obtain ⟨wo, rfl⟩ : ∃ x : World, x = wr := ⟨_, rfl⟩
      go_wp2
      go_loopg [10, 11, 12] m (fun gk t o i wi => ∃ (k : Nat) (xs : List Value), gk = m - k ∧ k ≤ m ∧ i = .int .i64 k ∧ t = .int .i64 ((((M.take k).filter (isTw n)).length : Nat) : Int) ∧ Hid (wi.ownsRow wo.heap.size 22 1 o ((M.take k).filter (isMid n)).length xs) ∧ Below wo.heap.size wo wi)
      case atStart => exact ⟨0, [], rfl, Nat.zero_le _, rfl, rfl, World.ownsRow_lit _ _ _ (Nat.le_refl _) (by unfold maxLen; omega) rfl, (Below.refl _ _).alloc (Nat.le_refl _) _⟩
      case round =>
        obtain ⟨wi, rfl⟩ : ∃ x : World, x = wr := ⟨_, rfl⟩
        obtain ⟨k, xs, rfl, hk, rfl, rfl, HO, hbi⟩ := hrel
        have HBI := Lib.hid hbi
        have hzi := hbi.size
        have hzo := HB.out.size
        clear hbi
        by_cases hlt : k < m
        · obtain ⟨p, hp⟩ : ∃ p, M[k]? = some p := ⟨_, List.getElem?_eq_getElem (by rw [HML.out]; omega)⟩
          obtain ⟨s, hs⟩ : ∃ u, gs[k]? = some u := ⟨_, List.getElem?_eq_getElem (by rw [HGL.out]; omega)⟩
          have HHI := Lib.hid (HH.out.below HBI.out)
          obtain ⟨g, cap, he, hglo, hghi⟩ := HHI.out.shape (by rw [List.length_map, HML.out]; omega)
          injection he with he he2 he3
          clear he2 he3
          subst he
          have HRS := Lib.hid (HHI.out.rd k s (lst n p) hs (by simp [lstL, hp]))
          obtain ⟨As, cs, rfl⟩ := HRS.out.len
          have e0 := (HHI.out.cell hs).1
          have HE := Lib.hid e0
          have HTK := Lib.hid (take_next hp)
          have hlm : ((M.take k).filter (isMid n)).length ≤ k := Nat.le_trans (List.length_filter_le _ _) (by rw [List.length_take]; omega)
          have hlt2 : ((M.take k).filter (isTw n)).length ≤ k := Nat.le_trans (List.length_filter_le _ _) (by rw [List.length_take]; omega)
          have HRD1 := Lib.hid (fun w3 (h : Below wi.heap.size wi w3) => (HRS.out.rd (B := wi.heap.size) fun b hb => hb.1).up h h.size)
          have hgi : g < wi.heap.size := (HHI.out.own.lt g rfl).2
          clear hp hs
          cases c1 : decide (lst n p = lst n Pm.one)
          · cases c2 : decide (lst n p = lst n (Pm.half n))
            · have HN1 := Lib.hid (show (M.take (k + 1)).filter (isMid n) = (M.take k).filter (isMid n) ++ [p] by rw [HTK.out, List.filter_append, show [p].filter (isMid n) = [p] from List.filter_eq_self.2 (by intro q hq; simp at hq; subst hq; unfold isMid; rw [c1, c2]; rfl)])
              have HN2 := Lib.hid (show (M.take (k + 1)).filter (isTw n) = (M.take k).filter (isTw n) by rw [HTK.out, List.filter_append, show [p].filter (isTw n) = [] from List.filter_eq_nil_iff.2 (by intro q hq; simp at hq; subst hq; unfold isTw; rw [c2]; simp)]; simp)
              have C1 := Lib.hid c1
              have C2 := Lib.hid c2
              clear c1 c2
              generalize hfl : (M.take k).filter (isMid n) = fl at *
              generalize htl : (M.take k).filter (isTw n) = tl at *
              clear hfl htl
              go_wp2
              go_region_with ((first | (go_at_call 80; refine (l04Identity_any n hn _).mono ?_; rintro e wa1 ⟨va1, rfl, hoa1, hba1⟩; obtain ⟨Aa1, ca1, rfl, -⟩ := hoa1.cells; have hbx1 : Below wi.heap.size wi wa1 := (Below.refl wi.heap.size wi).trans (((Below.refl wi.heap.size wi).drew.trans hba1).mono (Below.refl wi.heap.size wi).size); have ea1 : wa1.cell? ⟨g, k, none⟩ = some (.slice As (lst n p).length cs) := (hbx1.cell (p := ⟨g, k, none⟩) hgi).trans HE.out; have HOa1 := Lib.hid (RdI.of_own hoa1); have HXa1 := Lib.hid hbx1) | (go_at_call 99; refine (l04Is_any _ _ (lst n p) (lst n Pm.one) _ (HRD1.out _ HXa1.out) HOa1.out).mono ?_; rintro e wb1 ⟨rfl, hbb1⟩; rw [C1.out]; have hby1 : Below wi.heap.size wi wb1 := HXa1.out.trans (hbb1.mono HXa1.out.size))))
              all_goals
                have eb1 := (hby1.cell (p := ⟨g, k, none⟩) hgi).trans HE.out
                have HY1 := Lib.hid hby1
                clear hby1 hbx1 hoa1 hba1 hbb1 ea1
                go_wp2
                go_region_with ((first | (go_at_call 82; refine (l04Half_any n hn _).mono ?_; rintro e wa2 ⟨va2, rfl, hoa2, hba2⟩; obtain ⟨Aa2, ca2, rfl, -⟩ := hoa2.cells; have hbx2 : Below wi.heap.size wi wa2 := HY1.out.trans (((Below.refl wb1.heap.size wb1).drew.trans hba2).mono HY1.out.size); have ea2 : wa2.cell? ⟨g, k, none⟩ = some (.slice As (lst n p).length cs) := (hbx2.cell (p := ⟨g, k, none⟩) hgi).trans HE.out; have HOa2 := Lib.hid (RdI.of_own hoa2); have HXa2 := Lib.hid hbx2) | (go_at_call 99; refine (l04Is_any _ _ (lst n p) (lst n (Pm.half n)) _ (HRD1.out _ HXa2.out) HOa2.out).mono ?_; rintro e wb2 ⟨rfl, hbb2⟩; rw [C2.out]; have hby2 : Below wi.heap.size wi wb2 := HXa2.out.trans (hbb2.mono HXa2.out.size))))
                all_goals
                  have eb2 := (hby2.cell (p := ⟨g, k, none⟩) hgi).trans HE.out
                  have HY2 := Lib.hid hby2
                  have hz2 := hby2.size
                  have HOB := Lib.hid (own_below HO.out HY2.out)
                  clear hby2 hbx2 hoa2 hba2 hbb2 ea2 eb1
                  go_wp2_with (at_builtin; refine wpList_append_any _ rfl _ _ _ rfl wo.heap.size 22 i0 _ 1 24 Try.underlying84 hi hy0 hy1 hy2 rfl (by decide) _ _ _ rfl (HOB.out.alloc _) (wb2.heap.size + 1) _ 1 1 [_] rfl lit_reads (by intro u hu; simp at hu; subst hu; rfl) (by unfold maxLen; omega) (by omega) (by simp; omega) ?_)
                  intro v9 w9 hown9 hg9 hat9
                  have HO9 : Hid (w9.ownsRow wo.heap.size 22 1 v9 ((M.take (k + 1)).filter (isMid n)).length (xs ++ [.slice As (lst n p).length cs])) := by unfold Hid; rw [HN1.out, List.length_append]; exact hown9
                  have HB9 := Lib.hid (((HBI.out.trans (HY2.out.mono HBI.out.size)).alloc (by omega) _).grown hg9 (by simp; omega) (fun kk hkk => (HOB.out.lt kk hkk).1))
                  clear hown9 hg9 hat9 eb2
                  go_wp2
                  go_roundg (m - (k + 1))
                  case measure => omega
                  case rel => exact ⟨k + 1, _, rfl, by omega, by go_num, by rw [HN2.out], HO9.out, HB9.out⟩
            · have HN1 := Lib.hid (show (M.take (k + 1)).filter (isMid n) = (M.take k).filter (isMid n) by rw [HTK.out, List.filter_append, show [p].filter (isMid n) = [] from List.filter_eq_nil_iff.2 (by intro q hq; simp at hq; subst hq; unfold isMid; rw [c2]; simp)]; simp)
              have HN2 := Lib.hid (show (M.take (k + 1)).filter (isTw n) = (M.take k).filter (isTw n) ++ [p] by rw [HTK.out, List.filter_append, show [p].filter (isTw n) = [p] from List.filter_eq_self.2 (by intro q hq; simp at hq; subst hq; unfold isTw; rw [c1, c2]; rfl)])
              have C1 := Lib.hid c1
              have C2 := Lib.hid c2
              clear c1 c2
              generalize hfl : (M.take k).filter (isMid n) = fl at *
              generalize htl : (M.take k).filter (isTw n) = tl at *
              clear hfl htl
              go_wp2
              go_region_with ((first | (go_at_call 80; refine (l04Identity_any n hn _).mono ?_; rintro e wa1 ⟨va1, rfl, hoa1, hba1⟩; obtain ⟨Aa1, ca1, rfl, -⟩ := hoa1.cells; have hbx1 : Below wi.heap.size wi wa1 := (Below.refl wi.heap.size wi).trans (((Below.refl wi.heap.size wi).drew.trans hba1).mono (Below.refl wi.heap.size wi).size); have ea1 : wa1.cell? ⟨g, k, none⟩ = some (.slice As (lst n p).length cs) := (hbx1.cell (p := ⟨g, k, none⟩) hgi).trans HE.out; have HOa1 := Lib.hid (RdI.of_own hoa1); have HXa1 := Lib.hid hbx1) | (go_at_call 99; refine (l04Is_any _ _ (lst n p) (lst n Pm.one) _ (HRD1.out _ HXa1.out) HOa1.out).mono ?_; rintro e wb1 ⟨rfl, hbb1⟩; rw [C1.out]; have hby1 : Below wi.heap.size wi wb1 := HXa1.out.trans (hbb1.mono HXa1.out.size))))
              all_goals
                have eb1 := (hby1.cell (p := ⟨g, k, none⟩) hgi).trans HE.out
                have HY1 := Lib.hid hby1
                clear hby1 hbx1 hoa1 hba1 hbb1 ea1
                go_wp2
                go_region_with ((first | (go_at_call 82; refine (l04Half_any n hn _).mono ?_; rintro e wa2 ⟨va2, rfl, hoa2, hba2⟩; obtain ⟨Aa2, ca2, rfl, -⟩ := hoa2.cells; have hbx2 : Below wi.heap.size wi wa2 := HY1.out.trans (((Below.refl wb1.heap.size wb1).drew.trans hba2).mono HY1.out.size); have ea2 : wa2.cell? ⟨g, k, none⟩ = some (.slice As (lst n p).length cs) := (hbx2.cell (p := ⟨g, k, none⟩) hgi).trans HE.out; have HOa2 := Lib.hid (RdI.of_own hoa2); have HXa2 := Lib.hid hbx2) | (go_at_call 99; refine (l04Is_any _ _ (lst n p) (lst n (Pm.half n)) _ (HRD1.out _ HXa2.out) HOa2.out).mono ?_; rintro e wb2 ⟨rfl, hbb2⟩; rw [C2.out]; have hby2 : Below wi.heap.size wi wb2 := HXa2.out.trans (hbb2.mono HXa2.out.size))))
                all_goals
                  have HY2 := Lib.hid hby2
                  clear hby2 hbx2 hoa2 hba2 hbb2 ea2 eb1
                  go_wp2
                  go_roundg (m - (k + 1))
                  case measure => omega
                  case rel => exact ⟨k + 1, xs, rfl, by omega, by go_num, by rw [HN2.out, List.length_append]; go_num, by rw [HN1.out]; exact own_below HO.out HY2.out, HBI.out.trans (HY2.out.mono HBI.out.size)⟩
          · have HN1 := Lib.hid (show (M.take (k + 1)).filter (isMid n) = (M.take k).filter (isMid n) by rw [HTK.out, List.filter_append, show [p].filter (isMid n) = [] from List.filter_eq_nil_iff.2 (by intro q hq; simp at hq; subst hq; unfold isMid; rw [c1]; simp)]; simp)
            have HN2 := Lib.hid (show (M.take (k + 1)).filter (isTw n) = (M.take k).filter (isTw n) by rw [HTK.out, List.filter_append, show [p].filter (isTw n) = [] from List.filter_eq_nil_iff.2 (by intro q hq; simp at hq; subst hq; unfold isTw; rw [c1]; simp)]; simp)
            have C1 := Lib.hid c1
            clear c1
            generalize hfl : (M.take k).filter (isMid n) = fl at *
            generalize htl : (M.take k).filter (isTw n) = tl at *
            clear hfl htl
            go_wp2
            go_region_with ((first | (go_at_call 80; refine (l04Identity_any n hn _).mono ?_; rintro e wa1 ⟨va1, rfl, hoa1, hba1⟩; obtain ⟨Aa1, ca1, rfl, -⟩ := hoa1.cells; have hbx1 : Below wi.heap.size wi wa1 := (Below.refl wi.heap.size wi).trans (((Below.refl wi.heap.size wi).drew.trans hba1).mono (Below.refl wi.heap.size wi).size); have ea1 : wa1.cell? ⟨g, k, none⟩ = some (.slice As (lst n p).length cs) := (hbx1.cell (p := ⟨g, k, none⟩) hgi).trans HE.out; have HOa1 := Lib.hid (RdI.of_own hoa1); have HXa1 := Lib.hid hbx1) | (go_at_call 99; refine (l04Is_any _ _ (lst n p) (lst n Pm.one) _ (HRD1.out _ HXa1.out) HOa1.out).mono ?_; rintro e wb1 ⟨rfl, hbb1⟩; rw [C1.out]; have hby1 : Below wi.heap.size wi wb1 := HXa1.out.trans (hbb1.mono HXa1.out.size))))
            all_goals
              have HY1 := Lib.hid hby1
              clear hby1 hbx1 hoa1 hba1 hbb1 ea1
              go_wp2
              go_roundg (m - (k + 1))
              case measure => omega
              case rel => exact ⟨k + 1, xs, rfl, by omega, by go_num, by rw [HN2.out], by rw [HN1.out]; exact own_below HO.out HY1.out, HBI.out.trans (HY1.out.mono HBI.out.size)⟩
        · have HRN := Lib.hid (show Nrm n L (M.filter (isTw n)).length (M.filter (isMid n)) by
            obtain ⟨a, F, b, hMe, hG⟩ := shape_ex M (hL.rch HR.out) HSE2.out
            have hF : AllOn n F := by have h := hL.rch HR.out; rw [hMe] at h; exact h.right.left
            obtain ⟨h1, h2⟩ := mid_nfm (b := b) (a := a) hn2 hG hF
            rw [hMe, h1, h2]
            exact ⟨hG, b, by rw [← hMe]; exact HR.out, by rw [← hMe]; exact HSE2.out⟩)
          obtain ⟨Ao, co, rfl, -⟩ := (OwC.of_own HO.out).cells
          go_wp2
          obtain rfl : k = m := by omega
          have hMt : M.take k = M := List.take_of_length_le (by rw [HML.out]; exact Nat.le_refl _)
          go_ret2
          exact ⟨_, _, Ao, co, by first | rfl | (rw [hMt]; rfl), HRN.out, HB.out.trans (HBI.out.mono HB.out.size)⟩
    · have HGK2 := Lib.hid (show gk = mes n M + 1 from HGK.out)
      have hLM := Lib.hid (hL.rch HR.out)
      obtain ⟨gko, rfl⟩ : ∃ x : Nat, x = gk := ⟨_, rfl⟩
      obtain ⟨wo, rfl⟩ : ∃ x : World, x = wr := ⟨_, rfl⟩
      go_wp2
      go_loopg [7, 8] m (fun gj ch i wi => ∃ (cc : Bool) (M1 : List Pm) (g1 : List Value) (j : Nat), ch = .bool cc ∧ i = .int .i64 j ∧ j ≤ m ∧ Hid (M1.length = m) ∧ Hid (HRow wi w.heap.size (.slice A1 m c1) (lstL n M1) g1) ∧ Hid (Rch n M M1) ∧ Hid (cc = false → M1 = M ∧ Pref n M j) ∧ Hid (cc = true → mes n M1 < mes n M) ∧ Hid (gj = m - j) ∧ Below w.heap.size w wi)
      case atStart => exact ⟨false, M, gs, 0, rfl, rfl, Nat.zero_le _, HML.out, HH.out, .refl, fun _ => ⟨rfl, fun i p q hi => absurd hi (by omega)⟩, fun h => (by cases h), rfl, HB.out⟩
      case round =>
        obtain ⟨cc, M1, g1, j, rfl, rfl, hj, HM1, HH1, HR1, HCF, HCT, HGJ, hb1⟩ := hrel
        have HB1 := Lib.hid hb1
        have hzr := hb1.size
        clear hb1
        by_cases hlt : j + 1 < m
        · obtain ⟨p, hp⟩ : ∃ p, M1[j]? = some p := ⟨_, List.getElem?_eq_getElem (by rw [HM1.out]; omega)⟩
          obtain ⟨q, hq⟩ : ∃ q, M1[j + 1]? = some q := ⟨_, List.getElem?_eq_getElem (by rw [HM1.out]; omega)⟩
          have hgl : g1.length = m := by rw [HH1.out.hlen, List.length_map, HM1.out]
          obtain ⟨sj, hsj⟩ : ∃ u, g1[j]? = some u := ⟨_, List.getElem?_eq_getElem (by omega)⟩
          obtain ⟨sk, hsk⟩ : ∃ u, g1[j + 1]? = some u := ⟨_, List.getElem?_eq_getElem (by omega)⟩
          obtain ⟨g, cap, he, hglo, hghi⟩ := HH1.out.shape (by rw [List.length_map, HM1.out]; omega)
          injection he with he he2 he3
          clear he2 he3
          subst he
          have hrj := HH1.out.rd j sj (lst n p) hsj (by simp [lstL, hp])
          have hrk := HH1.out.rd (j + 1) sk (lst n q) hsk (by simp [lstL, hq])
          obtain ⟨Aj, cj, rfl⟩ := hrj.len
          obtain ⟨Ak, ck, rfl⟩ := hrk.len
          have hon := hLM.out.rch HR1.out
          have HPO := Lib.hid (hon p (List.mem_of_getElem? hp))
          have hrj1 := hrj.rd (B := wr.heap.size) fun b hb => hb.1
          have hrk1 := hrk.rd (B := wr.heap.size) fun b hb => hb.1
          have HQ := fun X => Lib.hid (l04Extra_any n (by omega) hn p q HPO.out _ _ (wgrow wr X) (hrj1.up (below_wgrow wr X) (below_wgrow wr X).size) (hrk1.up (below_wgrow wr X) (below_wgrow wr X).size))
          have e0 := fun X => wgrow_cell (x := X) (HH1.out.cell hsj).1
          have e1 := fun X => wgrow_cell (x := X) (HH1.out.cell hsk).1
          have HP := Lib.hid hp
          have HQQ := Lib.hid hq
          have hlt1 : (j : Int) + 1 < (m : Int) := by omega
          obtain ⟨gjo, rfl⟩ : ∃ x : Nat, x = gk := ⟨_, rfl⟩
          clear hp hq hsj hsk hrj hrk hrj1 hrk1 hgl hon
          go_wp2
          refine wp_region_grow (by kernel_rfl) (by kernel_rfl) ?_
          repeat (go_big_quiet_step ((go_at_call 97; exact calls_grow (HQ _).out)))
          refine wpQuiet_nil ?_
          intro w2 hb2
          have HH2 := Lib.hid (HH1.out.below hb2)
          have HB2 := Lib.hid (HB1.out.trans (hb2.mono HB1.out.size))
          clear hb2 e0 e1 HQ
          go_wp2
          go_loopg [7, 9] (mes n M1) (fun gx ch kk wi => ∃ (cx : Bool) (M2 : List Pm) (g2 : List Value) (p2 q2 : Pm), ch = .bool cx ∧ kk = .int .i64 (exP n p2 q2) ∧ Hid (M2[j]? = some p2) ∧ Hid (M2[j + 1]? = some q2) ∧ Hid (M2.length = m) ∧ Hid (HRow wi w.heap.size (.slice (some ⟨g, 0, none⟩) m c1) (lstL n M2) g2) ∧ Hid (Rch n M M2) ∧ Hid (cx = false → M2 = M ∧ Pref n M j) ∧ Hid (cx = true → mes n M2 < mes n M) ∧ Hid (gx = mes n M2) ∧ Below w.heap.size w wi)
          case atStart => exact ⟨cc, M1, g1, p, q, rfl, rfl, HP.out, HQQ.out, HM1.out, HH2.out, HR1.out, HCF.out, HCT.out, rfl, HB2.out⟩
          case round =>
            obtain ⟨cx, M2, g2, p2, q2, rfl, rfl, HP2, HQ2, HM2, HH3, HR2, HCF2, HCT2, HGX, hb3⟩ := hrel
            have HB3 := Lib.hid hb3
            have hz3 := hb3.size
            clear hb3
            by_cases hz : exP n p2 q2 = 0
            · have HZ := Lib.hid (exP_zero hz)
              rw [hz]
              clear hz
              go_wp2
              go_roundg (m - (j + 1))
              case measure => rw [HGJ.out]; omega
              case rel => exact ⟨cx, M2, g2, j + 1, rfl, by go_num, by omega, HM2.out, HH3.out, HR2.out, fun h => by obtain ⟨h1, h2⟩ := HCF2.out h; subst h1; exact ⟨rfl, h2.next HP2.out HQ2.out HZ.out⟩, HCT2.out, rfl, HB3.out⟩
            · obtain ⟨k, hk, hk1, hkn, hks, hkf⟩ := exP_pos hz
              rw [hk]
              have hk0 : ((k : Int) != 0) = true := by rw [bne_iff_ne]; omega
              have hon2 := hLM.out.rch HR2.out
              have HPO2 := Lib.hid (hon2 p2 (List.mem_of_getElem? HP2.out))
              have HQO2 := Lib.hid (hon2 q2 (List.mem_of_getElem? HQ2.out))
              have HMV := Lib.hid (mv_at hk1 hkn hks hkf HP2.out HQ2.out)
              have HMS := Lib.hid (mes_mv hon2 HMV.out)
              have hgl : g2.length = m := by rw [HH3.out.hlen, List.length_map, HM2.out]
              obtain ⟨sj, hsj⟩ : ∃ u, g2[j]? = some u := ⟨_, List.getElem?_eq_getElem (by omega)⟩
              obtain ⟨sk, hsk⟩ : ∃ u, g2[j + 1]? = some u := ⟨_, List.getElem?_eq_getElem (by omega)⟩
              have hrj := HH3.out.rd j sj (lst n p2) hsj (by simp [lstL, HP2.out])
              have hrk := HH3.out.rd (j + 1) sk (lst n q2) hsk (by simp [lstL, HQ2.out])
              obtain ⟨Aj, cj, rfl⟩ := hrj.len
              obtain ⟨Ak, ck, rfl⟩ := hrk.len
              have HGL := Lib.hid hgl
              have HSJ := Lib.hid hsj
              have HSK := Lib.hid hsk
              have hrj1 := hrj.rd (B := wr.heap.size) fun b hb => hb.1
              have HQ3 := Lib.hid (l04Behind_any n k hn hk1 hkn p2 _ wr hrj1)
              have hghr : g < wr.heap.size := (HH3.out.own.lt g rfl).2
              obtain ⟨gxo, rfl⟩ : ∃ x : Nat, x = gk := ⟨_, rfl⟩
              have e0 := (HH3.out.cell hsj).1
              clear hk hks hkf hz hon2 hgl hsj hsk hrj hrk hrj1
              go_wp2_with fail
              refine HQ3.out.mono ?_
              rintro e w3 ⟨v3, rfl, ho3, hb4⟩
              obtain ⟨A3, c3, rfl, -⟩ := ho3.cells
              have hz4 := hb4.size
              have HH4 := Lib.hid (HH3.out.below hb4)
              have HB4 := Lib.hid (HB3.out.trans (hb4.mono HB3.out.size))
              have hf3 : HOk w3 (some g) (.slice A3 (lst n (p2.behind k hk1)).length c3) (lst n (p2.behind k hk1)) := ho3.rdA.keep (fun b hb => ⟨hb.2, fun e => by injection e with e; omega⟩) (fun _ _ _ => rfl)
              have HH5 := Lib.hid (HH4.out.set (i := j) (by rw [List.length_map, HM2.out]; omega) hf3)
              have HB5 := Lib.hid (HB4.out.setCell (p := ⟨g, j, none⟩) hglo (.slice A3 (lst n (p2.behind k hk1)).length c3))
              rw [lstL_set] at HH5
              obtain ⟨f0, f1⟩ := HH4.out.cell HSJ.out
              have f2 := (HH4.out.cell HSK.out).1
              have hrk := HH5.out.rd (j + 1) _ (lst n q2) (by rw [List.getElem?_set_ne (by omega)]; exact HSK.out) (by simp [lstL, HQ2.out])
              have hrk1 := hrk.rd (B := (w3.setCell ⟨g, j, none⟩ (.slice A3 (lst n (p2.behind k hk1)).length c3)).heap.size) fun b hb => hb.1
              have HQ5 := Lib.hid (l04Before_any n k hn hk1 hkn q2 _ (w3.setCell ⟨g, j, none⟩ (.slice A3 (lst n (p2.behind k hk1)).length c3)) hrk1)
              have hne : ¬ j = j + 1 := by omega
              clear hb4 ho3 hf3 hrk hrk1 e0
              go_wp2_with fail
              refine HQ5.out.mono ?_
              rintro e w5 ⟨v5, rfl, ho5, hb6⟩
              obtain ⟨A5, c5, rfl, -⟩ := ho5.cells
              have hz6 := hb6.size
              have hz5 : g < (w3.setCell ⟨g, j, none⟩ (.slice A3 (lst n (p2.behind k hk1)).length c3)).heap.size := by simp; omega
              have HH6 := Lib.hid (HH5.out.below hb6)
              have HB6 := Lib.hid (HB5.out.trans (hb6.mono HB5.out.size))
              have hf5 : HOk w5 (some g) (.slice A5 (lst n (q2.before k hk1)).length c5) (lst n (q2.before k hk1)) := ho5.rdA.keep (fun b hb => ⟨hb.2, fun e => by injection e with e; omega⟩) (fun _ _ _ => rfl)
              have HH7 := Lib.hid (HH6.out.set (i := j + 1) (by rw [List.length_map, List.length_set, HM2.out]; omega) hf5)
              have HB7 := Lib.hid (HB6.out.setCell (p := ⟨g, j + 1, none⟩) hglo (.slice A5 (lst n (q2.before k hk1)).length c5))
              rw [lstL_set] at HH7
              have HSJ6 := Lib.hid (show (g2.set j (.slice A3 (lst n (p2.behind k hk1)).length c3))[j]? = some _ from List.getElem?_set_self (by rw [HGL.out]; omega))
              have HSK6 := Lib.hid (show (g2.set j (.slice A3 (lst n (p2.behind k hk1)).length c3))[j + 1]? = some _ by rw [List.getElem?_set_ne (by omega)]; exact HSK.out)
              have HSJ7 := Lib.hid (show ((g2.set j (.slice A3 (lst n (p2.behind k hk1)).length c3)).set (j + 1) (.slice A5 (lst n (q2.before k hk1)).length c5))[j]? = some _ by rw [List.getElem?_set_ne (by omega)]; exact HSJ6.out)
              have HSK7 := Lib.hid (show ((g2.set j (.slice A3 (lst n (p2.behind k hk1)).length c3)).set (j + 1) (.slice A5 (lst n (q2.before k hk1)).length c5))[j + 1]? = some _ from List.getElem?_set_self (by rw [List.length_set, HGL.out]; omega))
              obtain ⟨q0, q1⟩ := HH6.out.cell HSK6.out
              have q00 := (HH6.out.cell HSJ6.out).1
              have HP7 := Lib.hid (show ((M2.set j (p2.behind k hk1)).set (j + 1) (q2.before k hk1))[j]? = some (p2.behind k hk1) by rw [List.getElem?_set_ne (by omega)]; exact List.getElem?_set_self (by rw [HM2.out]; omega))
              have HQ7 := Lib.hid (show ((M2.set j (p2.behind k hk1)).set (j + 1) (q2.before k hk1))[j + 1]? = some (q2.before k hk1) from List.getElem?_set_self (by rw [List.length_set, HM2.out]; omega))
              have hrj7 := HH7.out.rd j _ (lst n (p2.behind k hk1)) HSJ7.out (by unfold lstL; rw [List.getElem?_map, HP7.out]; rfl)
              have hrk7 := HH7.out.rd (j + 1) _ (lst n (q2.before k hk1)) HSK7.out (by unfold lstL; rw [List.getElem?_map, HQ7.out]; rfl)
              have hrj8 := hrj7.rd (B := (w5.setCell ⟨g, j + 1, none⟩ (.slice A5 (lst n (q2.before k hk1)).length c5)).heap.size) fun b hb => hb.1
              have hrk8 := hrk7.rd (B := (w5.setCell ⟨g, j + 1, none⟩ (.slice A5 (lst n (q2.before k hk1)).length c5)).heap.size) fun b hb => hb.1
              have HQ := fun X => Lib.hid (l04Extra_any n (by omega) hn (p2.behind k hk1) (q2.before k hk1) (HPO2.out.behind hk1 hkn) _ _ (wgrow (w5.setCell ⟨g, j + 1, none⟩ (.slice A5 (lst n (q2.before k hk1)).length c5)) X) (hrj8.up (below_wgrow _ X) (below_wgrow _ X).size) (hrk8.up (below_wgrow _ X) (below_wgrow _ X).size))
              have e0 := fun X => wgrow_cell (x := X) (HH7.out.cell HSJ7.out).1
              have e1 := fun X => wgrow_cell (x := X) (HH7.out.cell HSK7.out).1
              clear hb6 ho5 hf5 hrj7 hrk7 hrj8 hrk8 f0 f1 f2 hne
              go_wp2
              refine wp_region_grow (by kernel_rfl) (by kernel_rfl) ?_
              repeat (go_big_quiet_step ((go_at_call 97; exact calls_grow (HQ _).out)))
              refine wpQuiet_nil ?_
              intro w8 hb8
              have HH8 := Lib.hid (HH7.out.below hb8)
              have HB8 := Lib.hid (HB7.out.trans (hb8.mono HB7.out.size))
              clear hb8 e0 e1 HQ q0 q1 q00
              go_wp2
              go_roundg (mes n ((M2.set j (p2.behind k hk1)).set (j + 1) (q2.before k hk1)))
              case measure => rw [HGX.out]; exact HMS.out
              case rel => exact ⟨true, _, _, _, _, rfl, rfl, HP7.out, HQ7.out, by unfold Hid; rw [List.length_set, List.length_set]; exact HM2.out, HH8.out, HR2.out.trans (.one HMV.out), fun h => (by cases h), fun _ => Nat.lt_of_lt_of_le HMS.out (by cases cx with | false => rw [(HCF2.out rfl).1]; exact Nat.le_refl _ | true => exact Nat.le_of_lt (HCT2.out rfl)), rfl, HB8.out⟩
        · have hlt1 : ¬ (j : Int) + 1 < (m : Int) := by omega
          go_wp2
          go_roundg (if cc then mes n M1 + 1 else 0)
          case measure =>
            rw [HGK2.out]
            cases cc with
            | false => simp
            | true => have := HCT.out rfl; simp; omega
          case rel => exact ⟨cc, M1, g1, rfl, HM1.out, HH1.out, HR.out.trans HR1.out, fun h => by obtain ⟨h1, h2⟩ := HCF.out h; subst h1; exact sett_of_pref (by rw [HM1.out]; omega) h2, rfl, HB1.out⟩

end Go.Proofs.Ytfeonaocmnpkcaa

/-
  The normal form of a word, of the reference; when two words are equal as braids.
-/
namespace Go.Proofs.Ytfeonaocmnpkcaa
set_option linter.unusedVariables false
set_option linter.unusedSimpArgs false
open Go.RowKit

theorem rch_len {n : Nat} {L L' : List Pm} (h : Rch n L L') : L'.length = L.length := by
  have hm : ∀ {A B : List Pm}, Mv n A B → B.length = A.length := by
    intro A B h
    induction h with
    | here k hk hn hs hf => simp
    | cons _ ih => simp [ih]
  induction h with
  | refl => rfl
  | head h _ ih => rw [ih, hm h]
theorem Nrm.len {n : Nat} {L : List Pm} {a : Nat} {F : List Pm} (h : Nrm n L a F) : a + F.length ≤ L.length := by
  obtain ⟨b, r, _⟩ := h.ex
  have := rch_len r
  unfold nfm at this
  simp at this
  omega
theorem raw_len (n : Nat) (w : List Int) : (raw n w).length = w.length := by
  have : ∀ (w : List Int) (L : List Pm), (w.foldl (fun L k => flipK n k L ++ [lets n k]) L).length = L.length + w.length := by
    intro w
    induction w with
    | nil => intro L; simp
    | cons k w ih =>
      intro L
      rw [List.foldl_cons, ih]
      have : (flipK n k L).length = L.length := by unfold flipK flipL; split <;> simp
      simp [this]
      omega
  have h := this w []
  simpa [raw] using h
theorem pow0_bd (w : List Int) : -(w.length : Int) ≤ pow0 w ∧ pow0 w ≤ 0 := by
  have : ∀ (w : List Int) (p : Int), p - w.length ≤ w.foldl stepP p ∧ w.foldl stepP p ≤ p := by
    intro w
    induction w with
    | nil => intro p; simp
    | cons k w ih =>
      intro p
      have := ih (stepP p k)
      rw [List.foldl_cons, List.length_cons]
      have h2 : p - 1 ≤ stepP p k ∧ stepP p k ≤ p := by unfold stepP; split <;> omega
      omega
  have := this w 0
  unfold pow0
  omega

theorem invW_get {l : List Int} {k : Nat} {x : Int} (h : l[l.length - 1 - k]? = some x) (hk : k < l.length) : (invW l)[k]? = some (-x) := by
  unfold invW
  rw [List.getElem?_reverse (by simpa using hk)]
  simp only [List.length_map, List.getElem?_map, h]
  rfl
theorem invW_len (l : List Int) : (invW l).length = l.length := by simp [invW]
set_option maxHeartbeats 4000000 in
set_option maxRecDepth 100000 in
theorem l03Inverse_any (v : Value) (l : List Int) (w : World) (hl : RdI w w.heap.size v l) (hlet : ∀ x ∈ l, -11 ≤ x ∧ x ≤ 11) (hlen : l.length ≤ 1048576) :
    Calls Try.prog 68 #[v] w (GivesL w (invW l)) := by
  obtain ⟨A, c, rfl⟩ := hl.len
  obtain ⟨i0, hi, hz0, hz1, hz2⟩ := info_parts info_int
  have HL := Lib.hid hl
  have HLT := Lib.hid hlet
  have HIN := Lib.hid (fun k x => invW_get (l := l) (k := k) (x := x))
  have hil := invW_len l
  generalize hI : invW l = I at *
  generalize hn : l.length = n at *
  have HN := Lib.hid hn
  have HIL := Lib.hid hil
  clear hl hlet hn hil hI
  go_enter Try.func68, Try.ntmps68
  go_wp2
  go_loopw [3, 4] (fun t i wr => ∃ (k : Nat), k ≤ n ∧ i = .int .i64 ((n : Int) - 1 - k) ∧ wr.ownsRow w.heap.size 2 1 t k (vI (I.take k)) ∧ Below w.heap.size w wr) (fun _ i _ => (intOf i + 1).toNat)
  case atStart => exact ⟨0, Nat.zero_le _, by simp, World.ownsRow_lit _ _ _ (Nat.le_refl _) (by unfold maxLen; omega) rfl, (Below.refl _ _).alloc (Nat.le_refl _) _⟩
  case round =>
    rename_i wr
    obtain ⟨k, hk, rfl, hown, hb⟩ := hrel
    have HB := Lib.hid hb
    have HO := Lib.hid hown
    by_cases hlt : k < n
    · obtain ⟨b, off, x, rfl, hbb, hx, hc⟩ := (HL.out.below hb).at_ (k := n - 1 - k) (by omega)
      obtain ⟨hx0, hx1⟩ := HLT.out x (List.mem_of_getElem? hx)
      have HT := Lib.hid (take_next (HIN.out k x hx hlt))
      have hb0 : 0 ≤ (n : Int) - 1 - k := by omega
      have hb1 : (n : Int) - 1 - k < n := by omega
      clear hb hown hx
      go_wp2_with (at_builtin; refine wpList_append_own _ rfl _ _ 22 rfl w.heap.size 2 i0 _ 1 8 Try.underlying22 hi hz0 hz1 hz2 rfl (by decide) _ _ _ rfl (HO.out.alloc _) ⟨wr.heap.size, 0, none⟩ 1 1 [.int .i64 (-x)] rfl rfl ?c1 ?c2 ?c3 ?c4 ?c5 ?_)
      case c1 => exact new_cells' _ _ (by simp)
      case c2 => intro u hu; simp at hu; subst hu; rfl
      case c3 => unfold maxLen; omega
      case c4 => omega
      case c5 => have := HB.out.size; simp; omega
      intro v' w2 hown2 hgrow2 _
      have HB1 := Lib.hid (below_append' (HB.out.alloc HB.out.size _) (by have := HB.out.size; simp; omega) HO.out (by simp) hgrow2)
      have HO1 : Hid (w2.ownsRow w.heap.size 2 1 v' (k + 1) (vI (I.take (k + 1)))) := by unfold Hid; rw [HT.out, vI_append]; exact hown2
      clear hgrow2 hown2 HB HO
      go_wp2
      exact ⟨⟨k + 1, by omega, by rw [show (n : Int) - 1 - ((k + 1 : Nat) : Int) = (n : Int) - 1 - k - 1 by omega], HO1.out, HB1.out⟩, by simp [intOf]; omega⟩
    · have hb0 : ¬ 0 ≤ (n : Int) - 1 - k := by omega
      clear hb hown
      go_wp2
      go_ret
      obtain rfl : k = n := by omega
      refine ⟨_, rfl, ?_, HB.out⟩
      have h := OwC.of_own HO.out
      rw [List.take_of_length_le (by rw [HIL.out]; omega)] at h
      rw [HIL.out]
      exact h

theorem LetsN.bd {n : Nat} {l : List Int} (h : LetsN n l) (hn : n ≤ 12) : ∀ x ∈ l, -11 ≤ x ∧ x ≤ 11 := fun x hx => by
  obtain ⟨h1, h2⟩ := h x hx
  omega

set_option maxHeartbeats 2000000 in
set_option maxRecDepth 100000 in
/-- No factors. -/
theorem l04Settle_nil (n : Int) (A : Option Addr) (c : Nat) (w : World) :
    Calls Try.prog 83 #[.int .i64 n, .slice A 0 c] w fun e w' => ∃ (A : Option Addr) (c : Nat), e = .returned (.tuple #[.int .i64 0, .slice A 0 c]) ∧ Below w.heap.size w w' := by
  obtain ⟨i0, hi, hy0, hy1, hy2⟩ := info_parts info_hd
  go_enter Try.func83, Try.ntmps83
  go_wp2_with (at_builtin; refine wpList_append_any _ rfl _ _ _ rfl w.heap.size 22 i0 _ 1 24 Try.underlying84 hi hy0 hy1 hy2 rfl (by decide) _ 0 [] rfl (World.ownsRow_lit _ _ _ (Nat.le_refl _) (by unfold maxLen; omega) rfl) w.heap.size A 0 c [] rfl Reads.none_ (by simp) (by unfold maxLen; omega) (by omega) (by simp) ?_)
  intro v1 w1 hown hg hat
  have HB0 := Lib.hid (((Below.refl w.heap.size w).alloc (Nat.le_refl _) _).grown hg (by simp) (fun kk hkk => by simp [Value.ownBlock] at hkk; omega))
  obtain ⟨A1, c1, rfl⟩ : ∃ A1 c1, v1 = .slice A1 0 c1 := by
    have ho : w1.ownsRow w.heap.size 22 1 v1 0 [] := by simpa using hown
    obtain ⟨A1, c1, e, _⟩ := (OwC.of_own ho).cells
    exact ⟨A1, c1, e⟩
  clear hown hg hat
  go_wp2
  go_loopg [7] 2 (fun gk ch wr => ∃ (cb : Bool), ch = .bool cb ∧ Hid (gk = if cb then 2 else 1) ∧ Below w.heap.size w wr)
  case atStart => exact ⟨true, rfl, rfl, HB0.out⟩
  case round =>
    obtain ⟨cb, rfl, HG, hb⟩ := hrel
    have HB := Lib.hid hb
    clear hb
    obtain ⟨wo, rfl⟩ : ∃ x : World, x = wr := ⟨_, rfl⟩
    cases cb
    · go_wp2
      go_loopg [10, 11, 12] 0 (fun gk t o i wi => t = .int .i64 0 ∧ (∃ A c, o = .slice A 0 c) ∧ i = .int .i64 0 ∧ Below w.heap.size w wi)
      case atStart => exact ⟨rfl, ⟨_, _, rfl⟩, rfl, HB.out.alloc HB.out.size _⟩
      case round =>
        obtain ⟨rfl, ⟨Ao, co, rfl⟩, rfl, hb⟩ := hrel
        have HBI := Lib.hid hb
        clear hb
        go_wp2
        go_ret2
        exact ⟨Ao, co, rfl, HBI.out⟩
    · obtain ⟨gko, rfl⟩ : ∃ x : Nat, x = gk := ⟨_, rfl⟩
      go_wp2
      go_loopg [7, 8] 0 (fun gk ch i wi => ch = .bool false ∧ i = .int .i64 0 ∧ Below w.heap.size w wi)
      case atStart => exact ⟨rfl, rfl, HB.out⟩
      case round =>
        obtain ⟨rfl, rfl, hb⟩ := hrel
        have HBI := Lib.hid hb
        clear hb
        go_wp2
        go_roundg 1
        case measure => rw [HG.out]; simp
        case rel => exact ⟨false, rfl, rfl, HBI.out⟩

set_option maxHeartbeats 8000000 in
set_option maxRecDepth 100000 in
theorem l04Normal_any (n : Nat) (hn : n ≤ 12) (l : List Int) (hl : LetsN n l) (hlen : l.length ≤ 5000) (v : Value) (w : World) (hv : RdI w w.heap.size v l) :
    Calls Try.prog 66 #[.int .i64 (n : Int), v] w fun e w' => ∃ (s : St) (A : Option Addr) (c : Nat), e = .returned (.agg #[.int .i64 (n : Int), .int .i64 s.p, .slice A s.F.length c]) ∧ IsNF n l s ∧ Below w.heap.size w w' := by
  obtain ⟨A, c, rfl⟩ := hv.len
  obtain ⟨i0, hi, hy0, hy1, hy2⟩ := info_parts info_hd
  have HL := Lib.hid hv
  have HLT := Lib.hid hl
  have HBD := Lib.hid (hl.bd hn)
  generalize hm : l.length = m at *
  have HM := Lib.hid hm
  clear hv hl hm
  have HB00 := Lib.hid (show Below w.heap.size w ((w.alloc (.cells #[.int .i64 0, .int .i64 0, .slice none 0 0] 86)).alloc (.cells #[.int .i64 (n : Int), .int .i64 0, .slice none 0 0] 86)) from ((Below.refl _ _).alloc (Nat.le_refl _) _).alloc (by simp) _)
  go_enter Try.func66, Try.ntmps66
  go_wp2
  go_loopg [6, 7] m (fun gk lv i wr => ∃ (k : Nat) (hs : List Value), gk = m - k ∧ k ≤ m ∧ i = .int .i64 k ∧ Hid (HRow wr (w.heap.size + 2) lv (lstL n (raw n (l.take k))) hs) ∧ Hid (HLow wr (w.heap.size + 2) (lstL n (raw n (l.take k))) hs) ∧
    Hid (CellsAt wr w.heap.size 0 [.int .i64 0, .int .i64 0, .slice none 0 0]) ∧ Hid (CellsAt wr (w.heap.size + 1) 0 [.int .i64 (n : Int), .int .i64 (pow0 (l.take k)), .slice none 0 0]) ∧ Hid (∀ b o, w.heap.size ≤ b → b < w.heap.size + 2 → wr.frozen? ⟨b, o, none⟩ = false) ∧ Hid (w.heap.size + 2 ≤ wr.heap.size) ∧ Below w.heap.size w wr)
  case atStart =>
    refine ⟨0, [], rfl, Nat.zero_le _, rfl, ?_, HLow.nil, ?_, ?_, ?_, by unfold Hid; first | omega | (simp; done) | (simp; omega), HB00.out.alloc (by first | omega | (simp; done) | (simp; omega)) _⟩
    · refine HRow.nil ?_
      have h0 := World.ownsRow_lit (base := w.heap.size + 2) (e := 22) (size := 1) ((w.alloc (.cells #[.int .i64 0, .int .i64 0, .slice none 0 0] 86)).alloc (.cells #[.int .i64 (n : Int), .int .i64 0, .slice none 0 0] 86)) #[] 0 (by simp) (Nat.zero_le _) rfl
      simpa using h0
    · intro j u hu; rcases j with _ | _ | _ | j <;> simp at hu <;> subst hu <;> simp [go_sem]
    · intro j u hu; rcases j with _ | _ | _ | j <;> simp [pow0] at hu <;> subst hu <;> simp [go_sem]
    · intro b o h1 h2
      obtain rfl | rfl : b = w.heap.size ∨ b = w.heap.size + 1 := by omega
      all_goals simp [go_sem]
  case round =>
    obtain ⟨wo, rfl⟩ : ∃ x : World, x = wr := ⟨_, rfl⟩
    obtain ⟨k, hs, rfl, hk, rfl, HH, HLW, HC0, HC1, HFZ, HSZ, hb⟩ := hrel
    have HB := Lib.hid hb
    clear hb
    obtain ⟨Av, cv, rfl⟩ := HH.out.shape'
    have HLEN := Lib.hid (show (lstL n (raw n (l.take k))).length = k by rw [List.length_map, raw_len, List.length_take, HM.out]; omega)
    rw [HLEN.out] at HH ⊢
    by_cases hlt : k < m
    · obtain ⟨b, off, x, rfl, hbb, hx, hc⟩ := (HL.out.below HB.out).at_ hlt
      obtain ⟨hx0, hx1⟩ := HBD.out x (List.mem_of_getElem? hx)
      obtain ⟨hxn, hxk⟩ := HLT.out x (List.mem_of_getElem? hx)
      have HT := Lib.hid (take_next hx)
      have HRAW := Lib.hid (show lstL n (raw n (l.take (k + 1))) = lstL n (flipK n x (raw n (l.take k))) ++ [lst n (lets n x)] by rw [take_next hx, raw_snoc]; simp [lstL])
      have HPOW := Lib.hid (show pow0 (l.take (k + 1)) = stepP (pow0 (l.take k)) x by rw [take_next hx, pow0_snoc])
      have hpb := pow0_bd (l.take k)
      have hlt' : (l.take k).length ≤ 5000 := by rw [List.length_take]; omega
      have HXC := Lib.hid hc
      clear hx
      rcases Int.lt_trichotomy x 0 with hneg | hzero | hpos
      · obtain ⟨j, hj⟩ : ∃ j : Nat, x = -(j : Int) := ⟨(-x).toNat, by omega⟩
        subst hj
        have hj1 : 1 ≤ j := by omega
        have hjn : j < n := by omega
        have hjneg : -(j : Int) < 0 := by omega
        have hjpos : ¬ (0 : Int) < -(j : Int) := by omega
        have hja : (-(j : Int)).natAbs = j := by omega
        have HLETS := Lib.hid (show lst n (lets n (-(j : Int))) = lst n ((Pm.half n).behind j hj1) by rw [lets_neg hjneg]; simp only [hja])
        have HFK := Lib.hid (show flipK n (-(j : Int)) (raw n (l.take k)) = flipL n (raw n (l.take k)) by unfold flipK; rw [if_neg hjpos])
        have HST := Lib.hid (show stepP (pow0 (l.take k)) (-(j : Int)) = pow0 (l.take k) - 1 by unfold stepP; rw [if_neg hjpos])
        have HQA := Lib.hid (l03Abs_any (-(j : Int)) (by omega) (by omega) wo)
        rw [if_pos hjneg, Int.neg_neg] at HQA
        have HRON := Lib.hid (raw_on (l.take k) (fun y hy => HLT.out y (List.mem_of_mem_take hy)))
        have HRLEN := Lib.hid (show (raw n (l.take k)).length = k by rw [raw_len, List.length_take, HM.out]; omega)
        obtain ⟨y0, y1, y2⟩ := HC1.out.three
        have fz1 := fun o => HFZ.out (w.heap.size + 1) o (by omega) (by omega)
        have hszo := HSZ.out
        have hf := HH.out.far HLW.out (p := ⟨w.heap.size + 1, 1, none⟩) (by simp) (by simp) (.int .i64 (pow0 (l.take k) - 1))
        have HH1 := Lib.hid hf.1
        have HQF := Lib.hid (l04FlipAll_any n hn (raw n (l.take k)) HRON.out (by rw [HRLEN.out]; omega) _ _ HH1.out.read)
        have HB1 := Lib.hid (show Below w.heap.size w (wo.setCell ⟨w.heap.size + 1, 1, none⟩ (.int .i64 (pow0 (l.take k) - 1))) from HB.out.setCell (by simp) _)
        have HC11 := Lib.hid (show CellsAt (wo.setCell ⟨w.heap.size + 1, 1, none⟩ (.int .i64 (pow0 (l.take k) - 1))) (w.heap.size + 1) 0 [.int .i64 (n : Int), .int .i64 (pow0 (l.take k) - 1), .slice none 0 0] from by have h := HC1.out.set 1 (.int .i64 (pow0 (l.take k) - 1)); rw [Nat.zero_add] at h; exact h)
        have HC01 := Lib.hid (HC0.out.far (p := ⟨w.heap.size + 1, 1, none⟩) (by simp) (.int .i64 (pow0 (l.take k) - 1)))
        have HFZ1 := Lib.hid (show ∀ b o, w.heap.size ≤ b → b < w.heap.size + 2 → (wo.setCell ⟨w.heap.size + 1, 1, none⟩ (.int .i64 (pow0 (l.take k) - 1))).frozen? ⟨b, o, none⟩ = false from fun b o h1 h2 => by rw [World.frozen?_setCell]; exact HFZ.out b o h1 h2)
        clear hxn hxk hx0 hx1 hf
        generalize hP : pow0 (l.take k) = P at *
        have hpb1 := hpb.1
        have hpb2 := hpb.2
        clear hP
        go_wp2_with fail
        refine HQA.out.mono ?_
        rintro e w' ⟨rfl, rfl⟩
        go_wp2_with fail
        refine HQF.out.mono ?_
        rintro e w2 ⟨v2, hs2, rfl, hh2, hl2, hb2⟩
        obtain ⟨A2, c2, rfl⟩ := hh2.shape'
        have hsz1 : (wo.setCell ⟨w.heap.size + 1, 1, none⟩ (.int .i64 (P - 1))).heap.size = wo.heap.size := by simp
        have hz2 : wo.heap.size ≤ w2.heap.size := by have := hb2.size; rw [hsz1] at this; exact this
        have HH2 := Lib.hid (hh2.lo (lo' := w.heap.size + 2) (by rw [hsz1]; omega))
        have HL2 := Lib.hid (hl2.of (lb' := w.heap.size + 2) (by rw [hsz1]; omega))
        have HB2 := Lib.hid (hb2.mono (show w.heap.size + 2 ≤ _ by rw [hsz1]; omega))
        have HLEN2 := Lib.hid (show (lstL n (flipL n (raw n (l.take k)))).length = k by rw [List.length_map]; unfold flipL; rw [List.length_map, HRLEN.out])
        rw [HLEN2.out] at HH2 ⊢
        clear hh2 hl2 hb2 y0 y1 y2 fz1
        go_wp2_with fail
        refine (l04Half_any n hn _).mono ?_
        rintro e w3 ⟨v3, rfl, ho3, hb3⟩
        obtain ⟨A3, c3, rfl, -⟩ := ho3.cells
        have HB3 := Lib.hid hb3
        have hz3 := hb3.size
        have HQ3 := Lib.hid (l04Behind_any n j hn hj1 hjn (Pm.half n) _ w3 (RdI.of_own ho3))
        clear ho3 hb3
        go_wp2_with fail
        refine HQ3.out.mono ?_
        rintro e w5 ⟨v5, rfl, ho5, hb5⟩
        have HO5 := Lib.hid ho5.rdA
        obtain ⟨A5, c5, rfl, -⟩ := ho5.cells
        have HB5 := Lib.hid (HB3.out.trans (hb5.mono hz3))
        have hz5 := hb5.size
        clear ho5 hb5
        go_wp2_with (at_builtin; refine wpList_append_any _ rfl _ _ _ rfl (w.heap.size + 2) 22 i0 _ 1 24 Try.underlying84 hi hy0 hy1 hy2 rfl (by decide) _ _ _ rfl ((own_below (by have h := HH2.out.own; rw [HLEN2.out] at h; exact h) HB5.out).alloc _) (w5.heap.size + 1) _ 1 1 [_] rfl lit_reads (by intro u hu; simp at hu; subst hu; rfl) (by unfold maxLen; omega) (by omega) (by simp; omega) ?_)
        intro v6 w6 hown6 hg6 hat6
        have hk5 : HOk w5 (Value.slice A2 k c2).ownBlock (.slice A5 (lst n ((Pm.half n).behind j hj1)).length c5) (lst n ((Pm.half n).behind j hj1)) := HO5.out.keep (fun b hb => ⟨hb.2, by intro e; have := (HH2.out.own.lt b e).2; omega⟩) (fun _ _ _ => rfl)
        have HH6 := Lib.hid (HRow.push HH2.out HB5.out hk5 (by rw [HLEN2.out]; exact hown6) hg6 (by simpa using hat6))
        have HL6 := Lib.hid (HLow.push HL2.out HH2.out HB5.out hk5 (HO5.out.keep (fun b hb => (by omega : w.heap.size + 2 ≤ b)) (fun _ _ _ => rfl)) hg6)
        rw [← HLETS.out, ← HFK.out, ← HRAW.out] at HH6 HL6
        have HB6 := Lib.hid (((HB2.out.trans (HB5.out.mono (by omega))) |>.alloc (by omega) _).grown hg6 (by simp; omega) (fun kk hkk => (HH2.out.own.lt kk hkk).1))
        have hz6 : wo.heap.size ≤ w6.heap.size := by have := HB6.out.size; rw [hsz1] at this; exact this
        have HFZ6 := Lib.hid (show ∀ b o, w.heap.size ≤ b → b < w.heap.size + 2 → w6.frozen? ⟨b, o, none⟩ = false from fun b o h1 h2 => (HB6.out.frozen (p := ⟨b, o, none⟩) h2).trans (HFZ1.out b o h1 h2))
        clear hown6 hg6 hat6 hk5 hsz1
        go_wp2
        go_roundg (m - (k + 1))
        case measure => omega
        case rel => exact ⟨k + 1, _, rfl, by omega, by go_num, HH6.out, HL6.out, HC01.out.below HB6.out (by omega), by rw [HPOW.out, HST.out]; exact HC11.out.below HB6.out (by omega), HFZ6.out, by unfold Hid; omega, HB1.out.trans (HB6.out.mono (by omega))⟩
      · exact absurd hzero hxn
      · obtain ⟨j, hj⟩ : ∃ j : Nat, x = (j : Int) := ⟨x.toNat, by omega⟩
        subst hj
        have hj1 : 1 ≤ j := by omega
        have hjn : j < n := by omega
        have hjneg : ¬ (j : Int) < 0 := by omega
        have hjpos : (0 : Int) < (j : Int) := by omega
        have HLETS := Lib.hid (show lst n (lets n (j : Int)) = lst n (Pm.one.behind j hj1) by rw [lets_pos hjpos]; rfl)
        have HFK := Lib.hid (show flipK n (j : Int) (raw n (l.take k)) = raw n (l.take k) by unfold flipK; rw [if_pos hjpos])
        have HST := Lib.hid (show stepP (pow0 (l.take k)) (j : Int) = pow0 (l.take k) by unfold stepP; rw [if_pos hjpos])
        have HQA := Lib.hid (l03Abs_any (j : Int) (by omega) (by omega) wo)
        rw [if_neg hjneg] at HQA
        clear hxn hxk hx0 hx1
        go_wp2_with fail
        refine HQA.out.mono ?_
        rintro e w' ⟨rfl, rfl⟩
        go_wp2_with fail
        refine (l04Identity_any n hn _).mono ?_
        rintro e w2 ⟨v2, rfl, ho2, hb2⟩
        obtain ⟨A2, c2, rfl, -⟩ := ho2.cells
        have HB2 := Lib.hid hb2
        have hz2 := hb2.size
        have HQ2 := Lib.hid (l04Behind_any n j hn hj1 hjn Pm.one _ w2 (RdI.of_own ho2))
        clear ho2 hb2
        go_wp2_with fail
        refine HQ2.out.mono ?_
        rintro e w3 ⟨v3, rfl, ho3, hb3⟩
        have HO3 := Lib.hid ho3.rdA
        obtain ⟨A3, c3, rfl, -⟩ := ho3.cells
        have HB3 := Lib.hid (HB2.out.trans (hb3.mono hz2))
        have hz3 := hb3.size
        have hszo := HSZ.out
        clear ho3 hb3
        go_wp2_with (at_builtin; refine wpList_append_any _ rfl _ _ _ rfl (w.heap.size + 2) 22 i0 _ 1 24 Try.underlying84 hi hy0 hy1 hy2 rfl (by decide) _ _ _ rfl ((own_below (by have h := HH.out.own; rw [HLEN.out] at h; exact h) HB3.out).alloc _) (w3.heap.size + 1) _ 1 1 [_] rfl lit_reads (by intro u hu; simp at hu; subst hu; rfl) (by unfold maxLen; omega) (by omega) (by simp; omega) ?_)
        intro v4 w4 hown4 hg4 hat4
        have hk3 : HOk w3 (Value.slice Av k cv).ownBlock (.slice A3 (lst n (Pm.one.behind j hj1)).length c3) (lst n (Pm.one.behind j hj1)) := HO3.out.keep (fun b hb => ⟨hb.2, by intro e; have := (HH.out.own.lt b e).2; omega⟩) (fun _ _ _ => rfl)
        have HH4 := Lib.hid (HRow.push HH.out HB3.out hk3 (by rw [HLEN.out]; exact hown4) hg4 (by simpa using hat4))
        have HL4 := Lib.hid (HLow.push HLW.out HH.out HB3.out hk3 (HO3.out.keep (fun b hb => (by omega : w.heap.size + 2 ≤ b)) (fun _ _ _ => rfl)) hg4)
        rw [← HLETS.out, ← HFK.out, ← HRAW.out] at HH4 HL4
        have HB4 := Lib.hid (((Below.refl (w.heap.size + 2) wo).trans (HB3.out.mono hszo) |>.alloc (by omega) _).grown hg4 (by simp; omega) (fun kk hkk => (HH.out.own.lt kk hkk).1))
        have hz4 := HB4.out.size
        have HFZ4 := Lib.hid (show ∀ b o, w.heap.size ≤ b → b < w.heap.size + 2 → w4.frozen? ⟨b, o, none⟩ = false from fun b o h1 h2 => (HB4.out.frozen (p := ⟨b, o, none⟩) h2).trans (HFZ.out b o h1 h2))
        clear hown4 hg4 hat4 hk3
        go_wp2
        go_roundg (m - (k + 1))
        case measure => omega
        case rel => exact ⟨k + 1, _, rfl, by omega, by go_num, HH4.out, HL4.out, HC0.out.below HB4.out (by omega), by rw [HPOW.out, HST.out]; exact HC1.out.below HB4.out (by omega), HFZ4.out, Nat.le_trans hszo hz4, HB.out.trans (HB4.out.mono (by omega))⟩
    · obtain rfl : k = m := by omega
      have HLT2 := Lib.hid (show l.take k = l from List.take_of_length_le (by rw [HM.out]; omega))
      rw [HLT2.out] at HH HLW HC1
      have hpb := pow0_bd l
      rw [HM.out] at hpb
      have HRON := Lib.hid (raw_on l HLT.out)
      have HRLEN := Lib.hid (show (raw n l).length = k by rw [raw_len, HM.out])
      have hszo := HSZ.out
      obtain ⟨y0, y1, y2⟩ := HC1.out.three
      have fz1 := fun o => HFZ.out (w.heap.size + 1) o (by omega) (by omega)
      have fz0 := fun o => HFZ.out w.heap.size o (by omega) (by omega)
      have HSET : Hid (Calls Try.prog 83 #[.int .i64 (n : Int), .slice Av k cv] wo fun e w' => ∃ (a : Nat) (F : List Pm) (A : Option Addr) (c : Nat), e = .returned (.tuple #[.int .i64 (a : Int), .slice A F.length c]) ∧ Nrm n (raw n l) a F ∧ Below wo.heap.size wo w') := by
        unfold Hid
        by_cases hn2 : 2 ≤ n
        · exact l04Settle_any n hn2 hn (raw n l) HRON.out (by rw [HRLEN.out]; omega) _ wo HH.out.read
        · have hl0 : l = [] := by
            rcases l with _ | ⟨x, t⟩
            · rfl
            · have h := HLT.out x (by simp)
              have := h.1
              have := h.2
              omega
          have hk0 : k = 0 := by rw [← HM.out, hl0]; rfl
          subst hk0
          refine (l04Settle_nil (n : Int) Av cv wo).mono ?_
          rintro e w' ⟨A, c, rfl, hb⟩
          obtain ⟨a, F, h⟩ := Nrm.exists_ HRON.out
          have hle := h.len
          rw [HRLEN.out] at hle
          have ha : a = 0 := by omega
          have hF : F = [] := List.eq_nil_of_length_eq_zero (by omega)
          exact ⟨a, F, A, c, by rw [ha, hF]; rfl, h, hb⟩
      go_wp2_with fail
      refine HSET.out.mono ?_
      rintro e w1 ⟨a, F, Af, cf, rfl, hnrm, hb1⟩
      have HN := Lib.hid hnrm
      have hal := hnrm.len
      rw [HRLEN.out] at hal
      have HB1 := Lib.hid (HB.out.trans (hb1.mono HB.out.size))
      have HC11 := HC1.out.below hb1 (by omega)
      have HC01 := HC0.out.below hb1 (by omega)
      obtain ⟨y0, y1, y2⟩ := HC11.three
      obtain ⟨z0, z1, z2⟩ := HC01.three
      have fz1 : ∀ o, w1.frozen? ⟨w.heap.size + 1, o, none⟩ = false := fun o => ((bcell hb1).2 _ o (by omega)).trans (HFZ.out (w.heap.size + 1) o (by omega) (by omega))
      have fz0 : ∀ o, w1.frozen? ⟨w.heap.size, o, none⟩ = false := fun o => ((bcell hb1).2 _ o (by omega)).trans (HFZ.out w.heap.size o (by omega) (by omega))
      have HRES := Lib.hid (show IsNF n l ⟨pow0 l + a, F⟩ from ⟨a, hnrm, rfl⟩)
      generalize hP : pow0 l = P at *
      have hp1 := hpb.1
      have hp2 := hpb.2
      clear hnrm hb1 HC11 HC01 hP
      go_wp2
      refine bodyPost_ret (v := .agg #[.int .i64 (n : Int), .int .i64 (P + a), .slice Af F.length cf]) (by simp [results, Try.results66, go_sem, y0, y1, y2, z0, z1, z2, World.cell?_setCell_other]) rfl ⟨_, Af, cf, rfl, HRES.out, ?_⟩
      exact ((((HB1.out.setCell (by simp) _).setCell (by simp) _).setCell (by simp) _).setCell (by simp) _).setCell (by simp) _

end Go.Proofs.Ytfeonaocmnpkcaa

/-
  Words equal as braids, of the reference.
-/
namespace Go.Proofs.Ytfeonaocmnpkcaa
set_option linter.unusedVariables false
set_option linter.unusedSimpArgs false
open Go.RowKit

open Classical in
/-- The normal form of a word. -/
noncomputable def nfw (n : Nat) (w : List Int) : St := if h : ∃ s, IsNF n w s then Classical.choose h else ⟨0, []⟩
theorem isNF_ex {n : Nat} {w : List Int} (h : LetsN n w) : ∃ s, IsNF n w s := by
  obtain ⟨a, F, hN⟩ := Nrm.exists_ (raw_on w h)
  exact ⟨⟨pow0 w + a, F⟩, a, hN, rfl⟩
theorem nfw_spec {n : Nat} {w : List Int} (h : LetsN n w) : IsNF n w (nfw n w) := by
  unfold nfw
  rw [dif_pos (isNF_ex h)]
  exact Classical.choose_spec (isNF_ex h)
theorem nfw_eq {n : Nat} {w : List Int} {s : St} (h : LetsN n w) (hs : IsNF n w s) : s = nfw n w := hs.uniq h (nfw_spec h)
theorem nfw_nil (n : Nat) : nfw n [] = ⟨0, []⟩ := (nfw_eq (fun k hk => by simp at hk) (isNF_nil n)).symm
open Classical in
/-- Are two words equal as braids? -/
noncomputable def eqW (n : Nat) (a b : List Int) : Bool := decide (nfw n a = nfw n b)
open Classical in
theorem eqW_iff {n : Nat} {a b : List Int} : eqW n a b = true ↔ nfw n a = nfw n b := by unfold eqW; exact decide_eq_true_iff
theorem LetsN.append {n : Nat} {a b : List Int} (ha : LetsN n a) (hb : LetsN n b) : LetsN n (a ++ b) := fun x hx => (List.mem_append.1 hx).elim (ha x) (hb x)
/-- What the reference asks of the normal form of one word and the other's inverse. -/
theorem eqW_triv {n : Nat} {a b : List Int} {s : St} (ha : LetsN n a) (hb : LetsN n b) (hs : IsNF n (a ++ invW b) s) : eqW n a b = (decide (s.p = 0) && decide (s.F.length = 0)) := by
  rw [Bool.eq_iff_iff, eqW_iff, ← nf_equal ha hb (nfw_spec ha) (nfw_spec hb) hs]
  simp only [Bool.and_eq_true, decide_eq_true_eq]
  constructor
  · rintro rfl; exact ⟨rfl, rfl⟩
  · rintro ⟨h1, h2⟩
    obtain ⟨p, F⟩ := s
    simp only at h1 h2
    rw [h1, List.eq_nil_of_length_eq_zero h2]

/- append([]int64{}, list...), the result an own row that may grow: l00OwnR name · spec.l00Own function -/
set_option maxHeartbeats 1000000 in
theorem l00OwnR_any (v : Value) (l : List Int) (w : World) (hl : RdI w w.heap.size v l) (hlen : l.length ≤ 1048576) :
    Calls Try.prog 67 #[v] w (GivesRow w 2 1 l.length (vI l)) := by
  obtain ⟨A, c, rfl⟩ := hl.len
  obtain ⟨i0, hi, hz0, hz1, hz2⟩ := info_parts info_int
  have HR := Lib.hid (hl.reads).1
  generalize hn : l.length = n at *
  clear hl hn
  go_enter Try.func67, Try.ntmps67
  go_wp2_with (at_builtin; refine wpList_append_any _ rfl _ _ _ rfl w.heap.size 2 i0 _ 1 8 Try.underlying22 hi hz0 hz1 hz2 rfl (by decide) _ 0 [] rfl (World.ownsRow_lit _ _ _ (Nat.le_refl _) (by unfold maxLen; omega) rfl) w.heap.size _ n c (vI l) rfl (HR.out.alloc (Nat.le_refl _) _) (vI_one l) (by unfold maxLen; omega) (by omega) (by simp) ?_)
  intro v1 w1 hown hg hat
  have HB := Lib.hid (((Below.refl w.heap.size w).alloc (Nat.le_refl _) _).grown hg (by simp) (fun kk hkk => by simp [Value.ownBlock] at hkk; omega))
  have HO : Hid (w1.ownsRow w.heap.size 2 1 v1 n (vI l)) := by unfold Hid; simpa using hown
  clear hown hg hat
  go_wp2
  go_ret
  exact ⟨_, rfl, HO.out, HB.out⟩

set_option maxHeartbeats 400000 in
set_option maxRecDepth 100000 in
theorem l04Equal_any (n : Nat) (hn : n ≤ 12) (a b : List Int) (ha : LetsN n a) (hb : LetsN n b) (hal : a.length ≤ 2000) (hbl : b.length ≤ 2000) (u v : Value) (w : World) (hu : RdI w w.heap.size u a) (hv : RdI w w.heap.size v b) :
    Calls Try.prog 54 #[.int .i64 (n : Int), u, v] w fun e w' => e = .returned (.bool (eqW n a b)) ∧ Below w.heap.size w w' := by
  have HQ1 := Lib.hid (l00OwnR_any u a w hu (by omega))
  have HQ2 := Lib.hid (fun w1 (h : Below w.heap.size w w1) => l03Inverse_any v b w1 ((hv.below h).more h.size) (hb.bd hn) (by omega))
  obtain ⟨A, c, rfl⟩ := hu.len
  obtain ⟨A', c', rfl⟩ := hv.len
  obtain ⟨i0, hi, hz0, hz1, hz2⟩ := info_parts info_int
  have HA := Lib.hid ha
  have HBW := Lib.hid hb
  have hil : (invW b).length ≤ 2000 := by rw [invW_len]; omega
  clear hu hv ha hb
  go_enter Try.func54, Try.ntmps54
  go_wp2_with fail
  refine HQ1.out.mono ?_
  rintro e w1 ⟨v1, rfl, ho1, hb1⟩
  have HO1 := Lib.hid ho1
  have HB1 := Lib.hid hb1
  obtain ⟨A1, c1, rfl, -⟩ := (OwC.of_own ho1).cells
  have zz1 := hb1.size
  clear hb1 ho1
  go_wp2_with fail
  refine (HQ2.out _ HB1.out).mono ?_
  rintro e w2 ⟨v2, rfl, ho2, hb2⟩
  obtain ⟨A2, c2, rfl, -⟩ := ho2.cells
  have HR2 := Lib.hid (RdI.of_own ho2).reads.1
  have HO2 := Lib.hid (own_below HO1.out hb2)
  have HB2 := Lib.hid (HB1.out.trans (hb2.mono zz1))
  have zz2 := hb2.size
  clear hb2 ho2
  go_wp2_with (at_builtin; refine wpList_append_any _ rfl _ _ _ rfl w.heap.size 2 i0 _ 1 8 Try.underlying22 hi hz0 hz1 hz2 rfl (by decide) _ _ _ rfl HO2.out w2.heap.size A2 (invW b).length c2 (vI (invW b)) rfl HR2.out (vI_one _) (by unfold maxLen; omega) (by omega) (by omega) ?_)
  intro v3 w3 hown3 hg3 hat3
  have HB3 := Lib.hid (HB2.out.grown hg3 (by omega) (fun kk hkk => (HO2.out.lt kk hkk).1))
  have HO3 : Hid (w3.ownsRow w.heap.size 2 1 v3 (a ++ invW b).length (vI (a ++ invW b))) := by unfold Hid; rw [List.length_append, vI_append]; exact hown3
  have HR3 := Lib.hid (RdI.of_own (OwC.of_own HO3.out))
  have HQ3 := Lib.hid (l04Normal_any n hn (a ++ invW b) (HA.out.append HBW.out.inv) (by rw [List.length_append]; omega) v3 w3 HR3.out)
  have zz3 := HB3.out.size
  clear hown3 hg3 hat3
  obtain ⟨A3, c3, rfl, -⟩ := (OwC.of_own HO3.out).cells
  rw [List.length_append] at HQ3
  go_wp2_with fail
  refine HQ3.out.mono ?_
  rintro e w4 ⟨s, A4, c4, rfl, hs, hb4⟩
  have HB4 := Lib.hid (HB3.out.trans (hb4.mono zz3))
  have he := eqW_triv HA.out HBW.out hs
  have HZ4 := Lib.hid HB4.out.size
  obtain ⟨p, F⟩ := s
  dsimp only at he ⊢
  generalize F.length = fl at *
  have HE := Lib.hid he
  clear hs hb4 he
  by_cases h1 : p = 0
  · subst h1
    by_cases h2 : fl = 0
    · subst h2
      go_wp2
      go_ret
      exact ⟨ret_bool (by rw [HE.out]; simp), HB4.out.alloc HZ4.out _⟩
    · have h3 : ((fl : Int) == 0) = false := by simp; omega
      have HD := Lib.hid h2
      clear h2
      go_wp2
      go_ret
      exact ⟨ret_bool (by rw [HE.out]; simp [HD.out]), HB4.out.alloc HZ4.out _⟩
  · have h3 : (p == 0) = false := by simpa using h1
    have HD := Lib.hid h1
    clear h1
    go_wp2
    go_ret
    exact ⟨ret_bool (by rw [HE.out]; simp [HD.out]), HB4.out.alloc HZ4.out _⟩

end Go.Proofs.Ytfeonaocmnpkcaa

/-
  l10Count; ValidEvents and StrandsOf of program and reference.
-/
namespace Go.Proofs.Ytfeonaocmnpkcaa
set_option linter.unusedVariables false
set_option linter.unusedSimpArgs false
open Go.RowKit

def okEvs (l : List Ev) : Bool := (cntE 0 l).isSome && decide (l.length ≤ 2000)

set_option maxHeartbeats 4000000 in
set_option maxRecDepth 100000 in
theorem l10Count_any (v : Value) (l : List Ev) (w : World) (B : Nat) (hl : RdE w B v l) (hB : B ≤ w.heap.size) :
    Calls Try.prog 36 #[v] w fun e w' => e = .returned (.tuple #[.int .i64 ((cntE 0 l).getD 0), .bool (okEvs l)]) ∧ Below w.heap.size w w' := by
  obtain ⟨A, n, c, rfl, hln, hl, gl⟩ := hl
  have hok : okEvs l = ((cntE 0 l).isSome && decide ((n : Int) ≤ 2000)) := by unfold okEvs; rw [hl.out, Bool.eq_iff_iff]; simp; omega
  rw [hok]
  clear hok
  generalize hR : cntE 0 l = R
  have HR := Lib.hid hR
  clear hR
  go_enter Try.func36, Try.ntmps36
  go_wp2
  go_loopw [4, 5] (fun t i wr => ∃ (k : Nat) (m : Int), k ≤ n ∧ i = .int .i64 k ∧ t = .int .i64 m ∧ 0 ≤ m ∧ m ≤ 12 ∧ Hid (cntE 0 l = cntE m (l.drop k)) ∧ Below w.heap.size w wr) (fun _ i _ => n - (intOf i).toNat)
  case atStart => exact ⟨0, 0, Nat.zero_le _, rfl, rfl, by omega, by omega, rfl, Below.refl _ _⟩
  case round =>
    rename_i wr
    obtain ⟨k, m, hk, rfl, rfl, m0, m1, hd, hb⟩ := hrel
    by_cases hlt : k < n
    · obtain ⟨b, off, x, rfl, hbb, hlk, hc⟩ := gl k hlt
      have HC := Lib.hid (hc.below hb (Nat.lt_of_lt_of_le hbb hB))
      have HB := Lib.hid hb
      have Hl := Lib.hid hlk
      clear hc hb hlk gl
      rcases hv : valE m x
      · have HV := Lib.hid hv
        clear hv
        have HN := Lib.hid (HR.out.symm.trans (drop_cnt_no hd.out Hl.out (by rw [HV.out]; simp)))
        go_wp2_with fail
        refine (l10Event_any x m m0 m1 _ _ _ HC.out).mono ?_
        rintro e w1 ⟨q, rfl, hq, hb1⟩
        rw [HV.out]
        have HB1 := Lib.hid (HB.out.trans (hb1.mono HB.out.size))
        clear hb1 hq
        go_wp2
        go_ret2
        exact ⟨by rw [HN.out]; rfl, HB1.out⟩
      · have HV := Lib.hid hv
        clear hv
        obtain ⟨a0, a1⟩ := aft_bounds m0 m1 HV.out
        by_cases ha : aftE m x ≤ 12
        · have HD := Lib.hid (drop_cnt_yes hd.out Hl.out HV.out ha)
          go_wp2_with fail
          refine (l10Event_any x m m0 m1 _ _ _ HC.out).mono ?_
          rintro e w1 ⟨q, rfl, hq, hb1⟩
          rw [HV.out]
          obtain rfl := hq HV.out
          have HB1 := Lib.hid (HB.out.trans (hb1.mono HB.out.size))
          clear hb1 hq
          go_wp2
          exact ⟨⟨k + 1, _, by omega, by go_num, rfl, a0, ha, HD.out, HB1.out⟩, by simp [intOf]; omega⟩
        · have HN := Lib.hid (HR.out.symm.trans (drop_cnt_no hd.out Hl.out (fun h => ha h.2)))
          go_wp2_with fail
          refine (l10Event_any x m m0 m1 _ _ _ HC.out).mono ?_
          rintro e w1 ⟨q, rfl, hq, hb1⟩
          rw [HV.out]
          obtain rfl := hq HV.out
          have HB1 := Lib.hid (HB.out.trans (hb1.mono HB.out.size))
          clear hb1 hq
          go_wp2
          go_ret2
          exact ⟨by rw [HN.out]; rfl, HB1.out⟩
    · have HB := Lib.hid hb
      have HN := Lib.hid (show R = some m by rw [← HR.out, hd.out, List.drop_of_length_le (by have := hl.out; omega)]; rfl)
      clear hb gl
      go_wp2
      go_ret2
      exact ⟨by rw [HN.out]; rfl, HB.out⟩

set_option maxHeartbeats 1000000 in
theorem implValidEvents_any (v : Value) (l : List Ev) (w : World) (B : Nat) (hl : RdE w B v l) (hB : B ≤ w.heap.size) :
    Calls Try.prog 39 #[v] w fun e w' => e = .returned (.bool (okEvs l)) ∧ Below w.heap.size w w' := by
  have HL := Lib.hid hl
  obtain ⟨A, n, c, rfl, hln, hl, gl⟩ := hl
  have hok : okEvs l = ((cntE 0 l).isSome && decide ((n : Int) ≤ 2000)) := by unfold okEvs; rw [hl.out, Bool.eq_iff_iff]; simp; omega
  rw [hok]
  clear hok gl
  cases hR : cntE 0 l
  all_goals
    have HR := Lib.hid hR
    clear hR
    go_enter Try.func39, Try.ntmps39
    go_wp2_with fail
    refine (strandsAfter_any _ l 0 (by omega) (by omega) _ _ HL.out hB).mono ?_
    rintro e w1 ⟨he, hb1⟩
    rw [HR.out] at he
    unfold cntR at he
    subst he
    have HB1 := Lib.hid hb1
    clear hb1
    go_wp2
    go_ret
    exact ⟨rfl, HB1.out⟩


def str0 (l : List Ev) : Int := if okEvs l = true then (cntE 0 l).getD 0 else 0
def str1 (l : List Ev) : Int := if okEvs l = true then 0 else 1
def strandsR (l : List Ev) (e : Ending) : Prop := e = .returned (.tuple #[.int .i64 (str0 l), .int .i64 (str1 l)])



end Go.Proofs.Ytfeonaocmnpkcaa

/-
  The blocks of events: the plain law.
-/
namespace Go.Proofs.Ytfeonaocmnpkcaa
set_option linter.unusedVariables false
set_option linter.unusedSimpArgs false
open Go.RowKit

/-! ### Words without letters that cancel -/
def redS (w : List Int) (x : Int) : List Int := if w.getLast? = some (-x) then w.dropLast else w ++ [x]
def red (w : List Int) : List Int := w.foldl redS []
theorem red_snoc (w : List Int) (x : Int) : red (w ++ [x]) = redS (red w) x := by simp [red, List.foldl_append]
theorem redS_len (w : List Int) (x : Int) : (redS w x).length ≤ w.length + 1 := by
  unfold redS
  split
  · simp; omega
  · simp
theorem red_len (w : List Int) : (red w).length ≤ w.length := by
  suffices h : ∀ (l acc : List Int), (l.foldl redS acc).length ≤ acc.length + l.length by simpa [red] using h w []
  intro l
  induction l with
  | nil => intro acc; simp
  | cons x t ih => intro acc; rw [List.foldl_cons]; have := ih (redS acc x); have := redS_len acc x; simp only [List.length_cons]; omega
theorem redS_mem {w : List Int} {x y : Int} (h : y ∈ redS w x) : y ∈ w ∨ y = x := by
  unfold redS at h
  split at h
  · exact .inl (List.dropLast_subset _ h)
  · simpa using h
theorem red_mem {w : List Int} {y : Int} (h : y ∈ red w) : y ∈ w := by
  suffices hh : ∀ (l acc : List Int), y ∈ l.foldl redS acc → y ∈ acc ∨ y ∈ l by simpa using hh w [] h
  intro l
  induction l with
  | nil => intro acc h; exact .inl h
  | cons x t ih =>
    intro acc h
    rcases ih _ h with h1 | h1
    · rcases redS_mem h1 with h2 | h2
      · exact .inl h2
      · exact .inr (by simp [h2])
    · exact .inr (by simp [h1])
theorem red_init {w : List Int} {y : Int} (h : red (w ++ [y]) = w ++ [y]) : red w = w := by
  rw [red_snoc] at h
  have hl := red_len w
  unfold redS at h
  split at h
  · have := congrArg List.length h
    simp at this
    omega
  · exact (List.append_inj' h rfl).1
theorem red_step {w : List Int} (h : red w = w) (x : Int) : red (w ++ [x]) = redS w x ∧ red (redS w x) = redS w x := by
  have h1 : red (w ++ [x]) = redS w x := by rw [red_snoc, h]
  refine ⟨h1, ?_⟩
  unfold redS
  split
  · rename_i hl
    obtain ⟨y, rfl⟩ : ∃ y, w = y ++ [-x] := by
      exact List.getLast?_eq_some_iff.1 hl
    rw [List.dropLast_concat]
    exact red_init h
  · rename_i hl
    rw [red_snoc, h]
    unfold redS
    rw [if_neg hl]

/-! ### Blocks -/
/-- The letter of a crossing. -/
def letX (e : Ev) : Int := e.c * (e.p + 1)
/-- A stitch behind the last block. -/
def addE (o : List Bk) (e : Ev) : List Bk := o.modify (o.length - 1) fun x => ⟨x.b, x.e ++ [e]⟩
theorem addE_len (o : List Bk) (e : Ev) : (addE o e).length = o.length := by simp [addE]
theorem addE_get (o : List Bk) (e : Ev) (k : Nat) : (addE o e)[k]? = if k = o.length - 1 then o[k]?.map (fun x => ⟨x.b, x.e ++ [e]⟩) else o[k]? := by
  unfold addE
  rw [List.getElem?_modify]
  by_cases h : k = o.length - 1
  · rw [if_pos h, h]; simp
  · have h2 : ¬ o.length - 1 = k := fun e => h e.symm
    simp [h, h2]
/-- The braid of a word closes. -/
noncomputable def clB (n : Int) (word : List Int) (o : List Bk) : Option (List Bk) :=
  if 40 < word.length then none else if eqW n.toNat word [] = true then some o else some (o ++ [⟨⟨n, word⟩, []⟩])
noncomputable def bkGo : Int → List Int → List Bk → List Ev → Option (List Bk)
  | n, word, o, [] => clB n word o
  | n, word, o, e :: l => if e.k = 1 then bkGo n (redS word (letX e)) o l else match clB n word o with
    | none => none
    | some o' => bkGo (aftE n e) [] (addE o' e) l
/-- The blocks of events; none where there are too many. -/
noncomputable def bkO (l : List Ev) : Option (List Bk) := match bkGo 0 [] [⟨⟨0, []⟩, []⟩] l with
  | none => none
  | some o => if o.length ≤ 60 then some o else none
noncomputable def bksL (l : List Ev) : List Bk := (bkO l).getD []
noncomputable def bksC (l : List Ev) : Int := if (bkO l).isSome = true then 0 else 5
theorem bks_none {l : List Ev} (h : bkO l = none) : bksL l = [] ∧ bksC l = 5 := by simp [bksL, bksC, h]
theorem bks_some {l : List Ev} {o : List Bk} (h : bkO l = some o) : bksL l = o ∧ bksC l = 0 := by simp [bksL, bksC, h]
theorem eqW_nil (n : Nat) : eqW n [] [] = true := by rw [eqW_iff]
theorem clB_nil (n : Int) (o : List Bk) : clB n [] o = some o := by simp [clB, eqW_nil]
theorem clB_full {n : Int} {word : List Int} {o : List Bk} (h : 40 < word.length) : clB n word o = none := by simp [clB, h]
theorem clB_triv {n : Int} {word : List Int} {o : List Bk} (h : ¬ 40 < word.length) (he : eqW n.toNat word [] = true) : clB n word o = some o := by simp [clB, h, he]
theorem clB_push {n : Int} {word : List Int} {o : List Bk} (h : ¬ 40 < word.length) (he : eqW n.toNat word [] = false) : clB n word o = some (o ++ [⟨⟨n, word⟩, []⟩]) := by simp [clB, h, he]
theorem clB_len {n : Int} {word : List Int} {o o' : List Bk} (h : clB n word o = some o') : o.length ≤ o'.length := by
  unfold clB at h
  split at h
  · cases h
  · split at h <;> injection h with h <;> subst h <;> simp
theorem bkGo_len : ∀ {l : List Ev} {n : Int} {word : List Int} {o o' : List Bk}, bkGo n word o l = some o' → o.length ≤ o'.length
  | [], n, word, o, o', h => clB_len h
  | e :: l, n, word, o, o', h => by
    rw [bkGo] at h
    split at h
    · exact bkGo_len h
    · split at h
      · cases h
      · rename_i o2 ho
        have h1 := bkGo_len h
        rw [addE_len] at h1
        exact Nat.le_trans (clB_len ho) h1
/-- How the walk goes on. -/
theorem bk_cross {R : Option (List Bk)} {n : Int} {word : List Int} {o : List Bk} {l : List Ev} {k : Nat} {e : Ev} (h : R = bkGo n word o (l.drop k)) (he : l[k]? = some e) (hk : e.k = 1) : R = bkGo n (redS word (letX e)) o (l.drop (k + 1)) := by
  rw [h, drop_of_get he, bkGo, if_pos hk]
theorem bk_none {R : Option (List Bk)} {n : Int} {word : List Int} {o : List Bk} {l : List Ev} {k : Nat} (h : R = bkGo n word o (l.drop k)) (hk : ∀ e, l[k]? = some e → e.k ≠ 1) (hc : clB n word o = none) : R = none := by
  by_cases hl : k < l.length
  · have he := List.getElem?_eq_getElem hl
    rw [h, drop_of_get he, bkGo, if_neg (hk _ he), hc]
  · rw [h, List.drop_of_length_le (by omega), bkGo, hc]
theorem bk_some {R : Option (List Bk)} {n : Int} {word : List Int} {o o' : List Bk} {l : List Ev} {k : Nat} {e : Ev} (h : R = bkGo n word o (l.drop k)) (he : l[k]? = some e) (hk : e.k ≠ 1) (hc : clB n word o = some o') : R = bkGo (aftE n e) [] (addE o' e) (l.drop (k + 1)) := by
  rw [h, drop_of_get he, bkGo, if_neg hk, hc]
theorem bk_end {R : Option (List Bk)} {n : Int} {word : List Int} {o : List Bk} {l : List Ev} {k : Nat} (h : R = bkGo n word o (l.drop k)) (hk : l.length ≤ k) : R = clB n word o := by
  rw [h, List.drop_of_length_le hk, bkGo]
/-- Too many blocks already. -/
theorem bkO_many {l : List Ev} {n : Int} {word : List Int} {o : List Bk} {k : Nat} {R : Option (List Bk)} (hR : bkGo 0 [] [⟨⟨0, []⟩, []⟩] l = R) (h : R = bkGo n word o (l.drop k)) (hl : 60 < o.length) : bkO l = none := by
  unfold bkO
  rw [hR]
  cases hr : R with
  | none => rfl
  | some o' =>
    rw [hr] at h
    have := bkGo_len h.symm
    show (if o'.length ≤ 60 then some o' else none) = none
    rw [if_neg (by omega)]
theorem bkO_none {l : List Ev} {R : Option (List Bk)} (hR : bkGo 0 [] [⟨⟨0, []⟩, []⟩] l = R) (h : R = none) : bkO l = none := by
  unfold bkO
  rw [hR, h]
theorem bkO_some {l : List Ev} {R : Option (List Bk)} {o : List Bk} (hR : bkGo 0 [] [⟨⟨0, []⟩, []⟩] l = R) (h : R = some o) (ho : o.length ≤ 60) : bkO l = some o := by
  unfold bkO
  rw [hR, h]
  exact if_pos ho
theorem clB_elen {n : Int} {word : List Int} {o o' : List Bk} {m : Nat} (h : clB n word o = some o') (he : ∀ x ∈ o, x.e.length ≤ m) : ∀ x ∈ o', x.e.length ≤ m := by
  unfold clB at h
  split at h
  · cases h
  · split at h <;> injection h with h <;> subst h
    · exact he
    · intro x hx
      rcases List.mem_append.1 hx with h1 | h1
      · exact he x h1
      · simp at h1; subst h1; simp
theorem addE_elen {o : List Bk} {m : Nat} {e : Ev} (h : ∀ x ∈ o, x.e.length ≤ m) : ∀ x ∈ addE o e, x.e.length ≤ m + 1 := by
  intro x hx
  obtain ⟨k, hk⟩ := List.getElem?_of_mem hx
  rw [addE_get] at hk
  split at hk
  · obtain ⟨y, hy, rfl⟩ := Option.map_eq_some_iff.1 hk
    have := h y (List.mem_of_getElem? hy)
    simp; omega
  · have := h x (List.mem_of_getElem? hk); omega
/-- What stands of a block while the events are read. -/
structure GoodB (m : Nat) (x : Bk) : Prop where
  n0 : 0 ≤ x.b.n
  n1 : x.b.n ≤ 12
  lets : LetsN x.b.n.toNat x.b.w
  wl : x.b.w.length ≤ 40
  el : x.e.length ≤ m
theorem GoodB.more {m m' : Nat} {x : Bk} (h : GoodB m x) (hm : m ≤ m') : GoodB m' x := ⟨h.n0, h.n1, h.lets, h.wl, by have := h.el; omega⟩
theorem good_cl {m : Nat} {n : Int} {word : List Int} {o o' : List Bk} (h : ∀ x ∈ o, GoodB m x) (n0 : 0 ≤ n) (n1 : n ≤ 12) (hw : LetsN n.toNat word) (hc : clB n word o = some o') : ∀ x ∈ o', GoodB m x := by
  unfold clB at hc
  split at hc
  · cases hc
  · split at hc <;> injection hc with hc <;> subst hc
    · exact h
    · intro x hx
      rcases List.mem_append.1 hx with h1 | h1
      · exact h x h1
      · simp at h1; subst h1; exact ⟨n0, n1, hw, by simp; omega, by simp⟩
theorem good_add {m : Nat} {o : List Bk} {e : Ev} (h : ∀ x ∈ o, GoodB m x) : ∀ x ∈ addE o e, GoodB (m + 1) x := by
  intro x hx
  obtain ⟨k, hk⟩ := List.getElem?_of_mem hx
  rw [addE_get] at hk
  split at hk
  · obtain ⟨y, hy, rfl⟩ := Option.map_eq_some_iff.1 hk
    have h1 := h y (List.mem_of_getElem? hy)
    exact ⟨h1.n0, h1.n1, h1.lets, h1.wl, by have := h1.el; simp; omega⟩
  · exact (h x (List.mem_of_getElem? hk)).more (by omega)
theorem LetsN.redS {n : Nat} {w : List Int} {x : Int} (h : LetsN n w) (hx : Ltr n x) : LetsN n (redS w x) := fun y hy => (redS_mem hy).elim (h y) (fun e => e ▸ hx)
theorem LetsN.snoc {n : Nat} {w : List Int} {x : Int} (h : LetsN n w) (hx : Ltr n x) : LetsN n (w ++ [x]) := fun y hy => (List.mem_append.1 hy).elim (h y) (fun e => by simp at e; exact e ▸ hx)
theorem LetsN.red {n : Nat} {w : List Int} (h : LetsN n w) : LetsN n (red w) := fun y hy => h y (red_mem hy)
theorem LetsN.nil (n : Nat) : LetsN n [] := fun y hy => by simp at hy

/-! ### Valid events -/
theorem letE_ltr {n : Int} {x : Ev} (h1 : n ≤ 12) (h : valE n x = true) (hk : x.k = 1) : Ltr n.toNat (letX x) ∧ 0 ≤ x.p ∧ x.p ≤ 10 ∧ (x.c = 1 ∨ x.c = -1) := by
  unfold valE at h
  simp [hk] at h
  obtain ⟨h2, h3, h4, h5⟩ := h
  refine ⟨?_, h2, by omega, h4⟩
  unfold letX
  rcases h4 with h4 | h4 <;> rw [h4] <;> constructor <;> omega
theorem letX_rng {n : Int} {e : Ev} (h1 : n ≤ 12) (h : valE n e = true) (hk : e.k = 1) : IntKind.i64.wrap (e.p + 1) = e.p + 1 ∧ IntKind.i64.wrap (e.c * (e.p + 1)) = letX e := by
  obtain ⟨h2, h3, h4, h5⟩ := letE_ltr h1 h hk
  unfold letX
  refine ⟨IntWalk.i64_in _ (by omega), ?_⟩
  rcases h5 with h5 | h5 <;> rw [h5] <;> exact IntWalk.i64_in _ (by omega)
/-- Where the counting goes through, the next event is valid. -/
theorem cnt_at {l : List Ev} {k : Nat} {m : Int} {x : Ev} (h : (cntE m (l.drop k)).isSome = true) (hx : l[k]? = some x) : valE m x = true ∧ aftE m x ≤ 12 ∧ (cntE (aftE m x) (l.drop (k + 1))).isSome = true := by
  rw [drop_of_get hx, cntE] at h
  by_cases hv : valE m x = true ∧ aftE m x ≤ 12
  · rw [if_pos hv] at h
    exact ⟨hv.1, hv.2, h⟩
  · rw [if_neg hv] at h
    simp at h
theorem okEvs_cnt' {l : List Ev} (h : okEvs l = true) : (cntE 0 (l.drop 0)).isSome = true ∧ l.length ≤ 2000 := by
  unfold okEvs at h
  simp at h
  exact ⟨by simpa using h.1, h.2⟩
/-- What the blocks of valid events are. -/
theorem good_go : ∀ {l : List Ev} {n : Int} {word : List Int} {o o' : List Bk} {m : Nat}, (cntE n l).isSome = true → 0 ≤ n → n ≤ 12 → LetsN n.toNat word → (∀ x ∈ o, GoodB m x) → bkGo n word o l = some o' → (∀ x ∈ o', GoodB (m + l.length) x) ∧ o'.length ≤ o.length + l.length + 1
  | [], n, word, o, o', m, hc, n0, n1, hw, hg, h => by
    refine ⟨fun x hx => by simpa using good_cl hg n0 n1 hw h x hx, ?_⟩
    rw [bkGo] at h
    unfold clB at h
    split at h
    · cases h
    · split at h <;> injection h with h <;> subst h <;> simp
  | e :: l, n, word, o, o', m, hc, n0, n1, hw, hg, h => by
    obtain ⟨hv, ha, hc'⟩ := cnt_at (l := e :: l) (k := 0) (x := e) (by simpa using hc) (by simp)
    rw [bkGo] at h
    split at h
    · rename_i hk
      obtain ⟨h1, h2⟩ := good_go (m := m) (by have e1 : aftE n e = n := (by simp [aftE, hk]); rw [e1] at hc'; simpa using hc') n0 n1 (hw.redS (letE_ltr n1 hv hk).1) hg h
      exact ⟨fun x hx => (h1 x hx).more (by rw [List.length_cons]; omega), by simp only [List.length_cons]; omega⟩
    · split at h
      · cases h
      · rename_i o2 ho
        have hb := aft_bounds n0 n1 hv
        obtain ⟨h1, h2⟩ := good_go (m := m + 1) (by simpa using hc') hb.1 ha (LetsN.nil _) (good_add (good_cl hg n0 n1 hw ho)) h
        have hl : o2.length ≤ o.length + 1 := by
          unfold clB at ho
          split at ho
          · cases ho
          · split at ho <;> injection ho with ho <;> subst ho <;> simp
        rw [addE_len] at h2
        exact ⟨fun x hx => (h1 x hx).more (by simp; omega), by simp only [List.length_cons]; omega⟩
theorem good_bks {l : List Ev} {o : List Bk} (h : okEvs l = true) (ho : bkO l = some o) : (∀ x ∈ o, GoodB 2000 x) ∧ o.length ≤ 60 := by
  obtain ⟨h1, h2⟩ := okEvs_cnt' h
  unfold bkO at ho
  cases hr : bkGo 0 [] [⟨⟨0, []⟩, []⟩] l with
  | none => rw [hr] at ho; cases ho
  | some o2 =>
    rw [hr] at ho
    have ho' : (if o2.length ≤ 60 then some o2 else none) = some o := ho
    split at ho'
    · injection ho' with ho'
      subst ho'
      refine ⟨fun x hx => ((good_go (m := 0) (by simpa using h1) (by omega) (by omega) (LetsN.nil _) (fun y hy => ?_) hr).1 x hx).more (by omega), by assumption⟩
      simp at hy
      subst hy
      exact ⟨by simp, by simp, LetsN.nil _, by simp, by simp⟩
    · cases ho'

end Go.Proofs.Ytfeonaocmnpkcaa

/-
  Blocks while they are built: the row of blocks, each block's word and stitches, and the next word, each a row of the call's own.
-/
namespace Go.Proofs.Ytfeonaocmnpkcaa
set_option linter.unusedVariables false
set_option linter.unusedSimpArgs false
open Go.RowKit

theorem vI_snoc' (l : List Int) (x : Int) : vI (l ++ [x]) = vI l ++ [.int .i64 x] := by simp [vI]
theorem vE_snoc' (l : List Ev) (x : Ev) : vE (l ++ [x]) = vE l ++ x.cells := by simp [vS]

abbrev spI (v : Value) (l : List Int) : Spot := ⟨2, 1, v, l.length, vI l⟩
abbrev spE (v : Value) (l : List Ev) : Spot := ⟨61, 6, v, l.length, vE l⟩
abbrev spB (v : Value) (n : Nat) (xs : List Value) : Spot := ⟨33, 3, v, n, xs⟩
structure Bld (L : Spot) (w : World) (B : Nat) (v u : Value) (H : List Bk) (word : List Int) (S : Nat → Spot) (xs : List Value) : Prop where
  sp : Spots w B (2 * H.length + 3) S
  s0 : S 0 = spB v H.length xs
  s1 : S 1 = L
  sx : ∀ k x, H[k]? = some x → xs[k * 3]? = some (.int .i64 x.b.n) ∧ xs[k * 3 + 1]? = some (S (2 * k + 2)).v ∧ xs[k * 3 + 2]? = some (S (2 * k + 3)).v
  sw : ∀ k x, H[k]? = some x → ∃ s, S (2 * k + 2) = spI s x.b.w
  st : ∀ k x, H[k]? = some x → ∃ t, S (2 * k + 3) = spE t x.e
  sl : S (2 * H.length + 2) = spI u word
section
variable {L : Spot} {w w' : World} {B : Nat} {v u : Value} {H : List Bk} {word : List Int} {S : Nat → Spot} {xs : List Value}
theorem Bld.below (h : Bld L w B v u H word S xs) (hb : Below w.heap.size w w') : Bld L w' B v u H word S xs := ⟨h.sp.below hb, h.s0, h.s1, h.sx, h.sw, h.st, h.sl⟩
theorem Bld.alloc (h : Bld L w B v u H word S xs) (o : Obj) : Bld L (w.alloc o) B v u H word S xs := h.below ((Below.refl _ _).alloc (Nat.le_refl _) o)
theorem Bld.drew (h : Bld L w B v u H word S xs) : Bld L w.drew B v u H word S xs := ⟨h.sp.drew, h.s0, h.s1, h.sx, h.sw, h.st, h.sl⟩
theorem Bld.far (h : Bld L w B v u H word S xs) {p : Addr} (hp : p.block < B) (x : Value) : Bld L (w.setCell p x) B v u H word S xs := ⟨h.sp.far hp x, h.s0, h.s1, h.sx, h.sw, h.st, h.sl⟩
theorem Bld.wordRow (h : Bld L w B v u H word S xs) : w.ownsRow B 2 1 u word.length (vI word) := by
  have := h.sp.own (2 * H.length + 2) (by omega)
  rw [h.sl] at this
  exact this
theorem Bld.row (h : Bld L w B v u H word S xs) : w.ownsRow B 33 3 v H.length xs := by
  have := h.sp.own 0 (by omega)
  rw [h.s0] at this
  exact this
/-- The next word's row has changed or is another. -/
theorem Bld.setWord {S' : Nat → Spot} {u' : Value} {word' : List Int} (h : Bld L w B v u H word S xs) (h' : Spots w' B (2 * H.length + 3) (putS S (2 * H.length + 2) (spI u' word'))) : Bld L w' B v u' H word' (putS S (2 * H.length + 2) (spI u' word')) xs := by
  refine ⟨h', ?_, ?_, fun k x hx => ?_, fun k x hx => ?_, fun k x hx => ?_, putS_same _ _ _⟩
  · rw [putS_ne (by omega)]; exact h.s0
  · rw [putS_ne (by omega)]; exact h.s1
  · have hk := (List.getElem?_eq_some_iff.1 hx).1
    rw [putS_ne (by omega), putS_ne (by omega)]
    exact h.sx k x hx
  · have hk := (List.getElem?_eq_some_iff.1 hx).1
    rw [putS_ne (by omega)]
    exact h.sw k x hx
  · have hk := (List.getElem?_eq_some_iff.1 hx).1
    rw [putS_ne (by omega)]
    exact h.st k x hx
/-- A letter more. -/
theorem Bld.letter {u' : Value} {x : Int} (h : Bld L w B v u H word S xs) (hown : w'.ownsRow B 2 1 u' (word.length + 1) (vI word ++ [.int .i64 x])) (hg : w.grownBy w' u.ownBlock) (hat : u'.ownBlock = u.ownBlock ∨ u'.ownBlock = some w.heap.size) :
    ∃ S', Bld L w' B v u' H (word ++ [x]) S' xs := by
  have hv : (S (2 * H.length + 2)).v = u := by rw [h.sl]
  exact ⟨_, h.setWord (S' := S) (h.sp.app (by omega) (spI u' (word ++ [x])) (by show w'.ownsRow B 2 1 u' (word ++ [x]).length (vI (word ++ [x])); rw [List.length_append, vI_snoc']; exact hown) (by rw [hv]; exact hg) (by rw [hv]; exact hat))⟩
/-- Another word. -/
theorem Bld.newWord {u' : Value} {word' : List Int} (h : Bld L w B v u H word S xs) (hB : B ≤ w.heap.size) (hb : Below w.heap.size w w') (hown : w'.ownsRow w.heap.size 2 1 u' word'.length (vI word')) : ∃ S', Bld L w' B v u' H word' S' xs :=
  ⟨_, h.setWord (S' := S) (h.sp.putNew hb _ (spI u' word') hown hB)⟩
theorem Bld.noWord (h : Bld L w B v u H word S xs) : ∃ S', Bld L w B v (.slice none 0 0) H [] S' xs :=
  ⟨_, h.setWord (S' := S) (h.sp.putNone _ _ _)⟩
/-- A block more: the word moves into it. -/
theorem Bld.push {v' : Value} {n : Int} (h : Bld L w B v u H word S xs) (hown : w'.ownsRow B 33 3 v' (H.length + 1) (xs ++ [.int .i64 n, u, .slice none 0 0])) (hg : w.grownBy w' v.ownBlock) (hat : v'.ownBlock = v.ownBlock ∨ v'.ownBlock = some w.heap.size) :
    ∃ S', Bld L w' B v' (.slice none 0 0) (H ++ [⟨⟨n, word⟩, []⟩]) [] S' (xs ++ [.int .i64 n, u, .slice none 0 0]) := by
  have hv : (S 0).v = v := by rw [h.s0]
  have hxl : xs.length = H.length * 3 := h.row.1
  have h1 := h.sp.app (p := 0) (by omega) (spB v' (H.length + 1) (xs ++ [.int .i64 n, u, .slice none 0 0])) hown (by rw [hv]; exact hg) (by rw [hv]; exact hat)
  have h2 := (h1.addNone 61 6).addNone 2 1
  refine ⟨_, by simpa [Nat.mul_add] using h2, ?_, ?_, fun k x hx => ?_, fun k x hx => ?_, fun k x hx => ?_, ?_⟩
  · rw [putS_ne (by omega), putS_ne (by omega), putS_same]; simp
  · rw [putS_ne (by omega), putS_ne (by omega), putS_ne (by omega)]; exact h.s1
  · by_cases hk : k < H.length
    · rw [List.getElem?_append_left hk] at hx
      obtain ⟨h4, h5, h6⟩ := h.sx k x hx
      rw [List.getElem?_append_left (by omega), List.getElem?_append_left (by omega), List.getElem?_append_left (by omega), putS_ne (by omega), putS_ne (by omega), putS_ne (by omega), putS_ne (by omega), putS_ne (by omega), putS_ne (by omega)]
      exact ⟨h4, h5, h6⟩
    · have hk2 : k = H.length := by have := (List.getElem?_eq_some_iff.1 hx).1; simp at this; omega
      subst hk2
      rw [List.getElem?_append_right (Nat.le_refl _), Nat.sub_self] at hx
      injection hx with hx
      subst hx
      rw [List.getElem?_append_right (by omega), List.getElem?_append_right (by omega), List.getElem?_append_right (by omega), putS_ne (by omega), putS_ne (by omega), putS_ne (by omega), putS_ne (by omega), putS_same, h.sl, hxl, Nat.sub_self, show H.length * 3 + 1 - H.length * 3 = 1 by omega, show H.length * 3 + 2 - H.length * 3 = 2 by omega]
      exact ⟨rfl, rfl, rfl⟩
  · by_cases hk : k < H.length
    · rw [List.getElem?_append_left hk] at hx
      rw [putS_ne (by omega), putS_ne (by omega), putS_ne (by omega)]
      exact h.sw k x hx
    · have hk2 : k = H.length := by have := (List.getElem?_eq_some_iff.1 hx).1; simp at this; omega
      subst hk2
      rw [List.getElem?_append_right (Nat.le_refl _), Nat.sub_self] at hx
      injection hx with hx
      subst hx
      rw [putS_ne (by omega), putS_ne (by omega), putS_ne (by omega)]
      exact ⟨u, h.sl⟩
  · by_cases hk : k < H.length
    · rw [List.getElem?_append_left hk] at hx
      rw [putS_ne (by omega), putS_ne (by omega), putS_ne (by omega)]
      exact h.st k x hx
    · have hk2 : k = H.length := by have := (List.getElem?_eq_some_iff.1 hx).1; simp at this; omega
      subst hk2
      rw [List.getElem?_append_right (Nat.le_refl _), Nat.sub_self] at hx
      injection hx with hx
      subst hx
      rw [putS_ne (by omega), putS_same]
      exact ⟨_, rfl⟩
  · rw [show 2 * (H ++ [⟨⟨n, word⟩, []⟩] : List Bk).length + 2 = 2 * H.length + 3 + 1 by simp; omega, putS_same]
    rfl
/-- The last block: where its stitches' header lies and which rows these are. -/
theorem Bld.last (h : Bld L w B v u H word S xs) (hl : 0 < H.length) : ∃ g cap x t, v = .slice (some ⟨g, 0, none⟩) H.length cap ∧ B ≤ g ∧ g < w.heap.size ∧ H[H.length - 1]? = some x ∧ S (2 * (H.length - 1) + 3) = spE t x.e ∧
    w.ownsRow B 61 6 t x.e.length (vE x.e) ∧ w.cell? ⟨g, (H.length - 1) * 3 + 2, none⟩ = some t ∧ (∀ i, w.frozen? ⟨g, i, none⟩ = false) ∧ t.ownBlock ≠ some g ∧ H.length ≤ cap := by
  obtain ⟨x, hx⟩ : ∃ x, H[H.length - 1]? = some x := ⟨_, List.getElem?_eq_getElem (by omega)⟩
  obtain ⟨t, ht⟩ := h.st _ x hx
  have hrow := h.row
  rcases hrow.2 with ⟨-, h0⟩ | ⟨g, cap, cur, rfl, hb, hh, hn, hc, hs, hxs⟩
  · omega
  · have ho := h.sp.own (2 * (H.length - 1) + 3) (by omega)
    rw [ht] at ho
    refine ⟨g, cap, x, t, rfl, hb, (Array.getElem?_eq_some_iff.1 hh).1, hx, ht, ho, ?_, fun i => frozen_of_row w g i cur _ hh, fun e => ?_, hn⟩
    · obtain ⟨-, -, h3⟩ := h.sx _ x hx
      rw [ht] at h3
      rw [cell_of_row w g _ cur _ (0, 0) hh, ← Array.getElem?_toList, ← h3, ← hxs, List.getElem?_take, if_pos (by omega)]
    · refine h.sp.dis 0 (2 * (H.length - 1) + 3) g (by omega) (by omega) (by omega) ?_ ?_
      · rw [h.s0]; rfl
      · rw [ht]; exact e
/-- A stitch more. -/
theorem Bld.stitch {g cap : Nat} {t t' : Value} {x : Bk} {e : Ev} (h : Bld L w B (.slice (some ⟨g, 0, none⟩) H.length cap) u H word S xs) (hl : 0 < H.length) (hx : H[H.length - 1]? = some x) (ht : S (2 * (H.length - 1) + 3) = spE t x.e) (hown : w'.ownsRow B 61 6 t' (x.e.length + 1) (vE x.e ++ e.cells)) (hg : w.grownBy w' t.ownBlock) (hat : t'.ownBlock = t.ownBlock ∨ t'.ownBlock = some w.heap.size) :
    ∃ S' xs', Bld L (w'.setCell ⟨g, (H.length - 1) * 3 + 2, none⟩ t') B (.slice (some ⟨g, 0, none⟩) H.length cap) u (addE H e) word S' xs' := by
  have hv : (S (2 * (H.length - 1) + 3)).v = t := by rw [ht]
  have hxl : xs.length = H.length * 3 := h.row.1
  have h1 := h.sp.app (p := 2 * (H.length - 1) + 3) (by omega) (spE t' (x.e ++ [e])) (by show w'.ownsRow B 61 6 t' (x.e ++ [e]).length (vE (x.e ++ [e])); rw [List.length_append, vE_snoc']; exact hown) (by rw [hv]; exact hg) (by rw [hv]; exact hat)
  have h0 : putS S (2 * (H.length - 1) + 3) (spE t' (x.e ++ [e])) 0 = spB (.slice (some ⟨g, 0, none⟩) H.length cap) H.length xs := by rw [putS_ne (by omega)]; exact h.s0
  have h2 := h1.setCell (p := 0) (g := g) (i := (H.length - 1) * 3 + 2) (by omega) (by rw [h0]; rfl) t' (by rw [h0]; show _ < H.length * 3; omega)
  rw [h0] at h2
  refine ⟨_, xs.set ((H.length - 1) * 3 + 2) t', by rw [addE_len]; exact h2, by rw [putS_same, addE_len], by rw [putS_ne (by omega), putS_ne (by omega)]; exact h.s1, fun k y hy => ?_, fun k y hy => ?_, fun k y hy => ?_, ?_⟩
  · have hk : k < H.length := by have := (List.getElem?_eq_some_iff.1 hy).1; rwa [addE_len] at this
    rw [putS_ne (by omega), putS_ne (by omega), putS_ne (by omega)]
    rw [addE_get] at hy
    by_cases hkl : k = H.length - 1
    · rw [if_pos hkl] at hy
      obtain ⟨z, hz, rfl⟩ := Option.map_eq_some_iff.1 hy
      obtain ⟨h4, h5, h6⟩ := h.sx k z hz
      rw [hkl] at h4 h5 ⊢
      rw [putS_same, List.getElem?_set_ne (by omega), List.getElem?_set_ne (by omega), List.getElem?_set_self (by omega)]
      exact ⟨h4, h5, rfl⟩
    · rw [if_neg hkl] at hy
      obtain ⟨h4, h5, h6⟩ := h.sx k y hy
      rw [putS_ne (by omega), List.getElem?_set_ne (by omega), List.getElem?_set_ne (by omega), List.getElem?_set_ne (by omega)]
      exact ⟨h4, h5, h6⟩
  · have hk : k < H.length := by have := (List.getElem?_eq_some_iff.1 hy).1; rwa [addE_len] at this
    rw [putS_ne (by omega), putS_ne (by omega)]
    rw [addE_get] at hy
    by_cases hkl : k = H.length - 1
    · rw [if_pos hkl] at hy
      obtain ⟨z, hz, rfl⟩ := Option.map_eq_some_iff.1 hy
      exact h.sw k z hz
    · rw [if_neg hkl] at hy
      exact h.sw k y hy
  · have hk : k < H.length := by have := (List.getElem?_eq_some_iff.1 hy).1; rwa [addE_len] at this
    rw [addE_get] at hy
    by_cases hkl : k = H.length - 1
    · rw [if_pos hkl] at hy
      obtain ⟨z, hz, rfl⟩ := Option.map_eq_some_iff.1 hy
      have hzx : z = x := by rw [hkl, hx] at hz; injection hz with hz; exact hz.symm
      subst hzx
      rw [hkl, putS_ne (by omega), putS_same]
      exact ⟨t', rfl⟩
    · rw [if_neg hkl] at hy
      rw [putS_ne (by omega), putS_ne (by omega)]
      exact h.st k y hy
  · rw [addE_len, putS_ne (by omega), putS_ne (by omega)]
    exact h.sl
/-- The local beside the rows: another one. -/
theorem Bld.loc {L' : Spot} (h : Bld L w B v u H word S xs) (hB : B ≤ w.heap.size) (hb : Below w.heap.size w w') (hown : L'.owned w' w.heap.size) : ∃ S', Bld L' w' B v u H word S' xs := by
  refine ⟨_, h.sp.putNew hb 1 L' hown hB, ?_, putS_same _ _ _, fun k x hx => ?_, fun k x hx => ?_, fun k x hx => ?_, ?_⟩
  · rw [putS_ne (by omega)]; exact h.s0
  · rw [putS_ne (by omega), putS_ne (by omega)]; exact h.sx k x hx
  · rw [putS_ne (by omega)]; exact h.sw k x hx
  · rw [putS_ne (by omega)]; exact h.st k x hx
  · rw [putS_ne (by omega)]; exact h.sl
theorem Bld.local_ (h : Bld L w B v u H word S xs) : L.owned w B := by
  have := h.sp.own 1 (by omega)
  rw [h.s1] at this
  exact this
theorem Bld.local_ne (h : Bld L w B v u H word S xs) {g : Nat} (hg : L.v.ownBlock = some g) {j : Nat} (hj : j < 2 * H.length + 3) (h1 : j ≠ 1) : (S j).v.ownBlock ≠ some g :=
  h.sp.dis 1 j g (by omega) hj (fun e => h1 e.symm) (by rw [h.s1]; exact hg)
/-- The first state. -/
theorem Bld.start (hr : w.ownsRow B 33 3 v 1 [.int .i64 0, .slice none 0 0, .slice none 0 0]) : ∃ S, Bld (Spot.none_ 61 6) w B v (.slice none 0 0) [⟨⟨0, []⟩, []⟩] [] S [.int .i64 0, .slice none 0 0, .slice none 0 0] := by
  refine ⟨fun j => if j = 0 then spB v 1 [.int .i64 0, .slice none 0 0, .slice none 0 0] else if j = 1 then Spot.none_ 61 6 else if j = 3 then spE (.slice none 0 0) [] else spI (.slice none 0 0) [], ⟨fun j hj => ?_, fun i j g hi hj hij hg => ?_⟩, rfl, rfl, fun k x hx => ?_, fun k x hx => ?_, fun k x hx => ?_, rfl⟩
  · show Spot.owned (if j = 0 then _ else _) _ _
    split
    · exact hr
    · split
      · exact World.ownsRow_nil _ _ _ _
      · split <;> exact World.ownsRow_nil _ _ _ _
  · have hn : ∀ q, q ≠ 0 → (if q = 0 then spB v 1 [.int .i64 0, .slice none 0 0, .slice none 0 0] else if q = 1 then Spot.none_ 61 6 else if q = 3 then spE (.slice none 0 0) [] else spI (.slice none 0 0) []).v.ownBlock = none := fun q hq => by
      rw [if_neg hq]
      split
      · rfl
      · split <;> rfl
    have hg' : (if i = 0 then spB v 1 [.int .i64 0, .slice none 0 0, .slice none 0 0] else if i = 1 then Spot.none_ 61 6 else if i = 3 then spE (.slice none 0 0) [] else spI (.slice none 0 0) []).v.ownBlock = some g := hg
    show (if j = 0 then spB v 1 [.int .i64 0, .slice none 0 0, .slice none 0 0] else if j = 1 then Spot.none_ 61 6 else if j = 3 then spE (.slice none 0 0) [] else spI (.slice none 0 0) []).v.ownBlock ≠ some g
    by_cases h0 : i = 0
    · rw [hn j (by omega)]
      exact fun e => by cases e
    · rw [hn i h0] at hg'
      cases hg'
  · obtain rfl : k = 0 := by have := (List.getElem?_eq_some_iff.1 hx).1; simp at this; omega
    simp at hx
    subst hx
    exact ⟨rfl, rfl, rfl⟩
  · obtain rfl : k = 0 := by have := (List.getElem?_eq_some_iff.1 hx).1; simp at this; omega
    simp at hx
    subst hx
    exact ⟨_, rfl⟩
  · obtain rfl : k = 0 := by have := (List.getElem?_eq_some_iff.1 hx).1; simp at this; omega
    simp at hx
    subst hx
    exact ⟨_, rfl⟩
end

/-- The local's place is left out. -/
def ix (j : Nat) : Nat := if j = 0 then 0 else j + 1
theorem ix_lt {j n : Nat} (h : j < 2 * n + 1) : ix j < 2 * n + 3 := by unfold ix; split <;> omega
theorem ix_inj {i j : Nat} (h : ix i = ix j) : i = j := by unfold ix at h; split at h <;> split at h <;> omega
/-- A row of blocks of the call's own: all rows lie in windows of their own. Window 0 is the row of blocks, 2k + 1 and 2k + 2 are the word and the stitches of block k. -/
def OwBl (w : World) (lo hi : Nat) (v : Value) (l : List Bk) : Prop :=
  ∃ (a b : Nat → Nat) (f : Nat → Value), (∀ j, j < 2 * l.length + 1 → lo ≤ a j ∧ b j ≤ hi) ∧ (∀ i j, i < 2 * l.length + 1 → j < 2 * l.length + 1 → i ≠ j → b i ≤ a j ∨ b j ≤ a i) ∧
    OwC w (a 0) (b 0) 33 3 v l.length ((List.range (l.length * 3)).map f) ∧ ∀ k x, l[k]? = some x → f (k * 3) = .int .i64 x.b.n ∧
      OwC w (a (2 * k + 1)) (b (2 * k + 1)) 2 1 (f (k * 3 + 1)) x.b.w.length (vI x.b.w) ∧ OwC w (a (2 * k + 2)) (b (2 * k + 2)) 61 6 (f (k * 3 + 2)) x.e.length (vE x.e)
theorem OwBl.nil {w : World} {lo hi : Nat} (h : lo ≤ hi) {A : Option Addr} {c : Nat} : OwBl w lo hi (.slice A 0 c) [] :=
  ⟨fun _ => lo, fun _ => lo, fun _ => (.slice none 0 0), fun j _ => ⟨Nat.le_refl _, h⟩, fun i j _ _ _ => .inl (Nat.le_refl _), .nil, fun k x hx => by simp at hx⟩
theorem Bld.own {L : Spot} {w : World} {B : Nat} {v u : Value} {H : List Bk} {word : List Int} {S : Nat → Spot} {xs : List Value} (h : Bld L w B v u H word S xs) (hB : B ≤ w.heap.size) : OwBl w B w.heap.size v H := by
  have hxl : xs.length = H.length * 3 := h.row.1
  refine ⟨fun j => (S (ix j)).lo B, fun j => (S (ix j)).hi B, fun i => xs.getD i (.slice none 0 0), fun j hj => h.sp.window hB (ix_lt hj), fun i j hi hj hij => h.sp.apart (ix_lt hi) (ix_lt hj) (fun e => hij (ix_inj e)), ?_, fun k x hx => ?_⟩
  · have h1 := h.sp.owc (j := 0) (by omega)
    rw [h.s0] at h1
    show OwC w ((S 0).lo B) ((S 0).hi B) _ _ _ _ _
    rw [h.s0, show (List.range (H.length * 3)).map (fun i => xs.getD i (.slice none 0 0)) = xs from ?_]
    · exact h1
    · apply List.ext_getElem?
      intro i
      by_cases hi : i < H.length * 3
      · rw [List.getElem?_map, List.getElem?_range hi, List.getElem?_eq_getElem (by omega)]
        simp [List.getD_eq_getElem?_getD, List.getElem?_eq_getElem (show i < xs.length by omega)]
      · rw [List.getElem?_eq_none (by simp; omega), List.getElem?_eq_none (by omega)]
  · have hk := (List.getElem?_eq_some_iff.1 hx).1
    obtain ⟨h1, h2, h3⟩ := h.sx k x hx
    obtain ⟨s, hs⟩ := h.sw k x hx
    obtain ⟨t, ht⟩ := h.st k x hx
    have g1 := h.sp.owc (j := 2 * k + 2) (by omega)
    have g2 := h.sp.owc (j := 2 * k + 3) (by omega)
    simp only [ix, if_neg (show ¬ 2 * k + 1 = 0 by omega), if_neg (show ¬ 2 * k + 2 = 0 by omega), List.getD_eq_getElem?_getD, h1, h2, h3, Option.getD_some]
    refine ⟨trivial, ?_, ?_⟩
    · rw [hs] at g1 ⊢; exact g1
    · rw [ht] at g2 ⊢; exact g2
theorem OwBl.rd {w : World} {lo hi : Nat} {v : Value} {l : List Bk} (h : OwBl w lo hi v l) : RdBks w hi v l := by
  obtain ⟨a, b, f, h1, h2, h3, h4⟩ := h
  obtain ⟨A, c, rfl, hn, hc⟩ := h3.cells
  refine ⟨A, l.length, c, rfl, hn, rfl, fun k hk => ?_⟩
  obtain ⟨g, rfl, hg0, hg1, hfr, hcell⟩ := hc k hk
  have hx : l[k]? = some l[k] := List.getElem?_eq_getElem hk
  obtain ⟨h5, h6, h7⟩ := h4 k _ hx
  have hw0 := h1 0 (by omega)
  refine ⟨g, 0, l[k], [.int .i64 l[k].b.n, f (k * 3 + 1), f (k * 3 + 2)], rfl, by omega, hx, rfl, fun j u hu => ?_, ⟨_, _, rfl, (RdI.of_own h6).more (h1 _ (by omega)).2, (RdS.of_own Ev.len h7).more (h1 _ (by omega)).2⟩⟩
  have hj : j < 3 := (List.getElem?_eq_some_iff.1 hu).1
  rw [Nat.zero_add]
  refine hcell (k * 3 + j) u (by omega) ?_
  rw [List.getElem?_map, List.getElem?_range (by omega)]
  obtain rfl | rfl | rfl : j = 0 ∨ j = 1 ∨ j = 2 := by omega
  all_goals
    simp at hu
    subst hu
    simp [h5]
theorem OwBl.keep {w w' : World} {lo hi : Nat} {v : Value} {l : List Bk} (h : OwBl w lo hi v l) (hk : ∀ g, lo ≤ g → g < hi → w'.heap[g]? = w.heap[g]?) : OwBl w' lo hi v l := by
  obtain ⟨a, b, f, h1, h2, h3, h4⟩ := h
  have hw0 := h1 0 (by omega)
  refine ⟨a, b, f, h1, h2, h3.keep fun g hg0 hg1 => hk g (by omega) (by omega), fun k x hx => ?_⟩
  have hkl := (List.getElem?_eq_some_iff.1 hx).1
  obtain ⟨h5, h6, h7⟩ := h4 k x hx
  have g1 := h1 (2 * k + 1) (by omega)
  have g2 := h1 (2 * k + 2) (by omega)
  exact ⟨h5, h6.keep fun g hg0 hg1 => hk g (by omega) (by omega), h7.keep fun g hg0 hg1 => hk g (by omega) (by omega)⟩
theorem OwBl.below {w w' : World} {lo hi : Nat} {v : Value} {l : List Bk} (h : OwBl w lo hi v l) (hb : Below hi w w') : OwBl w' lo hi v l := h.keep fun g _ hg => hb.block g hg

end Go.Proofs.Ytfeonaocmnpkcaa

/-
  Words without letters that cancel: reduced of the program, l03Reduce of the reference.
-/
namespace Go.Proofs.Ytfeonaocmnpkcaa
set_option linter.unusedVariables false
set_option linter.unusedSimpArgs false
open Go.RowKit

theorem nil_or_snoc {α : Type} (l : List α) : l = [] ∨ ∃ ys y, l = ys ++ [y] := by
  rcases List.eq_nil_or_concat l with h | ⟨ys, y, h⟩
  · exact .inl h
  · exact .inr ⟨ys, y, by rw [h, List.concat_eq_append]⟩
/-- The last element taken off. -/
theorem own_init {w : World} {base e n cap g : Nat} {xs : List Value} {u : Value} (h : w.ownsRow base e 1 (.slice (some ⟨g, 0, none⟩) (n + 1) cap) (n + 1) (xs ++ [u])) : w.ownsRow base e 1 (.slice (some ⟨g, 0, none⟩) n cap) n xs := by
  have hl := h.1
  simp at hl
  rcases h.2 with ⟨e, _⟩ | ⟨g', cap', cur, e, hlo, hh, h1, h2, h3, h4⟩
  · cases e
  · injection e with e1 e2 e3
    injection e1 with e1
    injection e1 with e1 e4
    subst e1 e3
    refine ⟨by omega, .inr ⟨g, cap, cur, rfl, hlo, hh, by omega, h2, h3, ?_⟩⟩
    have h5 := congrArg (List.take n) h4
    rw [List.take_take, Nat.min_eq_left (by omega), List.take_append_of_le_length (by omega), List.take_of_length_le (l := xs) (by omega)] at h5
    simpa using h5
theorem own_last {w : World} {base e n : Nat} {v : Value} {xs : List Value} {u : Value} (h : w.ownsRow base e 1 v (n + 1) (xs ++ [u])) : ∃ g cap, v = .slice (some ⟨g, 0, none⟩) (n + 1) cap ∧ w.cell? ⟨g, n, none⟩ = some u ∧ n + 1 ≤ cap ∧ cap ≤ maxLen := by
  have hl := h.1
  simp at hl
  rcases h.2 with ⟨_, h0⟩ | ⟨g, cap, cur, rfl, hlo, hh, h1, h2, h3, h4⟩
  · omega
  · refine ⟨g, cap, rfl, ?_, h1, h2⟩
    have h5 := congrArg (fun l => l[n]?) h4
    simp only [List.getElem?_take, if_pos (show n < (n + 1) * 1 by omega), Array.getElem?_toList] at h5
    rw [cell_of_row w g n cur _ (0, 0) hh, h5, List.getElem?_append_right (by omega), show n - xs.length = 0 by omega]
    rfl
theorem own_shape {w : World} {base e sz n : Nat} {v : Value} {xs : List Value} (h : w.ownsRow base e sz v n xs) : ∃ A c, v = .slice A n c := by
  obtain ⟨A, c, e, _⟩ := (OwC.of_own h).cells
  exact ⟨A, c, e⟩
theorem red_take {l : List Int} {k : Nat} {x : Int} {acc : List Int} (h : acc = red (l.take k)) (hx : l[k]? = some x) : redS acc x = red (l.take (k + 1)) := by
  rw [take_next hx, red_snoc, h]
theorem redS_drop {ys : List Int} {y x : Int} (h : y = -x) : redS (ys ++ [y]) x = ys := by simp [redS, h]
theorem redS_app {ys : List Int} {y x : Int} (h : y ≠ -x) : redS (ys ++ [y]) x = ys ++ [y] ++ [x] := by simp [redS, h]
theorem redS_nil (x : Int) : redS [] x = [x] := by simp [redS]
theorem red_bd {l acc : List Int} {k : Nat} (h : acc = red (l.take k)) (hl : ∀ x ∈ l, -11 ≤ x ∧ x ≤ 11) : ∀ x ∈ acc, -11 ≤ x ∧ x ≤ 11 := fun x hx => by
  rw [h] at hx
  exact hl x (List.mem_of_mem_take (red_mem hx))

set_option maxHeartbeats 4000000 in
set_option maxRecDepth 100000 in
theorem reduced_any (v : Value) (l : List Int) (w : World) (hl : RdI w w.heap.size v l) (hlet : ∀ x ∈ l, -11 ≤ x ∧ x ≤ 11) (hlen : l.length ≤ 1048576) :
    Calls Try.prog 62 #[v] w fun e w' => ∃ v', e = .returned v' ∧ w'.ownsRow w.heap.size 2 1 v' (red l).length (vI (red l)) ∧ Below w.heap.size w w' := by
  obtain ⟨A, c, rfl⟩ := hl.len
  obtain ⟨i0, hi, hz0, hz1, hz2⟩ := info_parts info_int
  have HL := Lib.hid hl
  have HLT := Lib.hid hlet
  have HE := Lib.hid (show red l = red (l.take l.length) by rw [List.take_length])
  generalize hn : l.length = n at *
  have HN := Lib.hid hn
  generalize hY : red l = Y at *
  have hmk : ∀ W : World, (Instr.makeSlice 22 (.int .i64 0) (.int .i64 (n : Int))).run Try.prog W = .ok (.slice (some ⟨W.heap.size, 0, none⟩) 0 n) (W.alloc (.cells (madeCells #[.int .i64 0] n) 2)) := fun W => by
    have h := run_make (P := Try.prog) W 22 2 i0 _ Try.underlying22 hi hz0 .i64 .i64 0 (n : Int) (by omega) (by omega) (by rw [hz2]; omega) (by omega)
    simp only [hz1, Int.toNat_natCast, Nat.mul_one] at h
    exact h
  clear hl hlet hn hY
  go_enter Try.func62, Try.ntmps62
  go_wp2
  clear hmk
  go_loopw [3, 11] (fun t i wr => ∃ (k : Nat) (acc : List Int), k ≤ n ∧ i = .int .i64 k ∧ wr.ownsRow w.heap.size 2 1 t acc.length (vI acc) ∧ acc.length ≤ k ∧ Hid (acc = red (l.take k)) ∧ Below w.heap.size w wr) (fun _ i _ => n - (intOf i).toNat)
  case atStart => exact ⟨0, [], Nat.zero_le _, rfl, World.ownsRow_made _ _ _ (Nat.le_refl _) (by unfold maxLen; omega) (by simp [madeCells]), Nat.le_refl _, by simp [red, Hid], (Below.refl _ _).alloc (Nat.le_refl _) _⟩
  case round =>
    rename_i wr
    obtain ⟨k, acc, hk, rfl, hown, hak, hd, hb⟩ := hrel
    have HB := Lib.hid hb
    have HO := Lib.hid hown
    by_cases hlt : k < n
    · obtain ⟨b, off, x, rfl, hbb, hx, hc⟩ := (HL.out.below hb).at_ hlt
      obtain ⟨hx0, hx1⟩ := HLT.out x (List.mem_of_getElem? hx)
      have HD := Lib.hid (red_take hd.out hx)
      have HBD := Lib.hid (red_bd hd.out HLT.out)
      obtain ⟨At, ct, rfl⟩ := own_shape hown
      clear hb hown hx hd
      rcases nil_or_snoc acc with rfl | ⟨ys, y, rfl⟩
      · rw [redS_nil] at HD
        simp only [List.length_nil] at *
        go_wp2_with (at_builtin; refine wpList_append_own _ rfl _ _ 22 rfl w.heap.size 2 i0 _ 1 8 Try.underlying22 hi hz0 hz1 hz2 rfl (by decide) _ _ _ rfl (HO.out.alloc _) ⟨wr.heap.size, 0, none⟩ 1 1 [.int .i64 x] rfl rfl ?c1 ?c2 ?c3 ?c4 ?c5 ?_)
        case c1 => exact new_cells' _ _ (by simp)
        case c2 => intro u hu; simp at hu; subst hu; rfl
        case c3 => simp [maxLen]
        case c4 => simp
        case c5 => have := HB.out.size; simp; omega
        intro v' w2 hown2 hgrow2 _
        have HB1 := Lib.hid (below_append' (HB.out.alloc HB.out.size _) (by have := HB.out.size; simp; omega) HO.out (by simp) hgrow2)
        have HO1 : Hid (w2.ownsRow w.heap.size 2 1 v' [x].length (vI [x])) := hown2
        clear hgrow2 hown2 HB HO
        go_wp2
        exact ⟨⟨k + 1, [x], by omega, by go_num, HO1.out, by simp, HD.out, HB1.out⟩, by simp [intOf]; omega⟩
      · have HO' : Hid (wr.ownsRow w.heap.size 2 1 (.slice At (ys ++ [y]).length ct) (ys.length + 1) (vI ys ++ [.int .i64 y])) := by have h := HO.out; rw [vI_snoc', List.length_append] at h; rw [List.length_append]; exact h
        obtain ⟨y0, y1⟩ := HBD.out y (by simp)
        obtain ⟨g, cap, e, hcy, hcap, hcm⟩ := own_last HO'.out
        injection e with e1 e2 e3
        subst e1 e3
        have hal : ys.length + 1 ≤ k := by simpa using hak
        have hyl : (ys ++ [y]).length = ys.length + 1 := by simp
        rw [hyl] at HO' HO hak ⊢
        clear hak e2
        by_cases hxy : y = -x
        · rw [redS_drop hxy] at HD
          have hq : (y == -x) = true := by simpa using hxy
          have HO1 := Lib.hid (own_init HO'.out)
          clear hyl HO HO'
          go_wp2
          exact ⟨⟨k + 1, ys, by omega, by go_num, HO1.out, by omega, HD.out, HB.out⟩, by simp [intOf]; omega⟩
        · rw [redS_app hxy] at HD
          have hq : (y == -x) = false := by simpa using hxy
          clear HO hyl
          go_wp2_with (at_builtin; refine wpList_append_own _ rfl _ _ 22 rfl w.heap.size 2 i0 _ 1 8 Try.underlying22 hi hz0 hz1 hz2 rfl (by decide) _ _ _ rfl (HO'.out.alloc _) ⟨wr.heap.size, 0, none⟩ 1 1 [.int .i64 x] rfl rfl ?c1 ?c2 ?c3 ?c4 ?c5 ?_)
          case c1 => exact new_cells' _ _ (by simp)
          case c2 => intro u hu; simp at hu; subst hu; rfl
          case c3 => unfold maxLen; omega
          case c4 => omega
          case c5 => have := HB.out.size; simp; omega
          intro v' w2 hown2 hgrow2 _
          have HB1 := Lib.hid (below_append' (HB.out.alloc HB.out.size _) (by have := HB.out.size; simp; omega) HO'.out (by simp) hgrow2)
          have HO1 : Hid (w2.ownsRow w.heap.size 2 1 v' (ys ++ [y] ++ [x]).length (vI (ys ++ [y] ++ [x]))) := by unfold Hid; rw [vI_snoc', vI_snoc', List.length_append, List.length_append, List.append_assoc]; exact hown2
          clear hgrow2 hown2 HB HO'
          go_wp2
          exact ⟨⟨k + 1, ys ++ [y] ++ [x], by omega, by go_num, HO1.out, by simp; omega, HD.out, HB1.out⟩, by simp [intOf]; omega⟩
    · have HE2 := Lib.hid (show Y = acc by rw [HE.out, hd.out]; congr 2; omega)
      clear hb hown hd
      go_wp2
      go_ret
      exact ⟨_, rfl, by rw [HE2.out]; exact HO.out, HB.out⟩

set_option maxHeartbeats 4000000 in
set_option maxRecDepth 100000 in
theorem l03Reduce_any (v : Value) (l : List Int) (w : World) (hl : RdI w w.heap.size v l) (hlet : ∀ x ∈ l, -11 ≤ x ∧ x ≤ 11) (hlen : l.length ≤ 1048576) :
    Calls Try.prog 60 #[v] w fun e w' => ∃ v', e = .returned v' ∧ w'.ownsRow w.heap.size 2 1 v' (red l).length (vI (red l)) ∧ Below w.heap.size w w' := by
  obtain ⟨A, c, rfl⟩ := hl.len
  obtain ⟨i0, hi, hz0, hz1, hz2⟩ := info_parts info_int
  have HL := Lib.hid hl
  have HLT := Lib.hid hlet
  have HE := Lib.hid (show red l = red (l.take l.length) by rw [List.take_length])
  generalize hn : l.length = n at *
  have HN := Lib.hid hn
  generalize hY : red l = Y at *
  clear hl hlet hn hY
  go_enter Try.func60, Try.ntmps60
  go_wp2
  go_loopw [3, 4] (fun t i wr => ∃ (k : Nat) (acc : List Int), k ≤ n ∧ i = .int .i64 k ∧ wr.ownsRow w.heap.size 2 1 t acc.length (vI acc) ∧ acc.length ≤ k ∧ Hid (acc = red (l.take k)) ∧ Below w.heap.size w wr) (fun _ i _ => n - (intOf i).toNat)
  case atStart => exact ⟨0, [], Nat.zero_le _, rfl, World.ownsRow_lit _ _ _ (Nat.le_refl _) (by unfold maxLen; omega) rfl, Nat.le_refl _, by simp [red, Hid], (Below.refl _ _).alloc (Nat.le_refl _) _⟩
  case round =>
    rename_i wr
    obtain ⟨k, acc, hk, rfl, hown, hak, hd, hb⟩ := hrel
    have HB := Lib.hid hb
    have HO := Lib.hid hown
    by_cases hlt : k < n
    · obtain ⟨b, off, x, rfl, hbb, hx, hc⟩ := (HL.out.below hb).at_ hlt
      have hlw : b < wr.heap.size := Nat.lt_of_lt_of_le hbb hb.size
      obtain ⟨hx0, hx1⟩ := HLT.out x (List.mem_of_getElem? hx)
      have HD := Lib.hid (red_take hd.out hx)
      have HBD := Lib.hid (red_bd hd.out HLT.out)
      obtain ⟨At, ct, rfl⟩ := own_shape hown
      clear hb hown hx hd
      rcases nil_or_snoc acc with rfl | ⟨ys, y, rfl⟩
      · rw [redS_nil] at HD
        simp only [List.length_nil] at *
        go_wp2
        go_quiet (fail)
        go_wp2_with (at_builtin; refine wpList_append_own _ rfl _ _ 22 rfl w.heap.size 2 i0 _ 1 8 Try.underlying22 hi hz0 hz1 hz2 rfl (by decide) _ _ _ rfl (HO.out.alloc _) ⟨wr.heap.size, 0, none⟩ 1 1 [.int .i64 x] rfl rfl ?c1 ?c2 ?c3 ?c4 ?c5 ?_)
        case c1 => exact new_cells' _ _ (by simp [World.drewN])
        case c2 => intro u hu; simp at hu; subst hu; rfl
        case c3 => simp [maxLen]
        case c4 => simp
        case c5 => have := HB.out.size; simp; omega
        intro v' w2 hown2 hgrow2 _
        have HB1 := Lib.hid (below_append' ((below_drewN HB.out nq).alloc (by have := HB.out.size; simpa using this) _) (by have := HB.out.size; simp; omega) HO.out (by simp) hgrow2)
        have HO1 : Hid (w2.ownsRow w.heap.size 2 1 v' [x].length (vI [x])) := hown2
        clear hgrow2 hown2 HB HO
        go_wp2
        exact ⟨⟨k + 1, [x], by omega, by go_num, HO1.out, by simp, HD.out, HB1.out⟩, by simp [intOf]; omega⟩
      · have HO' : Hid (wr.ownsRow w.heap.size 2 1 (.slice At (ys ++ [y]).length ct) (ys.length + 1) (vI ys ++ [.int .i64 y])) := by have h := HO.out; rw [vI_snoc', List.length_append] at h; rw [List.length_append]; exact h
        obtain ⟨y0, y1⟩ := HBD.out y (by simp)
        obtain ⟨g, cap, e, hcy, hcap, hcm⟩ := own_last HO'.out
        injection e with e1 e2 e3
        subst e1 e3
        have hal : ys.length + 1 ≤ k := by simpa using hak
        have hyl : (ys ++ [y]).length = ys.length + 1 := by simp
        rw [hyl] at HO' HO hak ⊢
        clear hak e2
        by_cases hxy : y = -x
        · rw [redS_drop hxy] at HD
          have hq : (y == -x) = true := by simpa using hxy
          have HO1 := Lib.hid (own_init HO'.out)
          clear hyl HO HO'
          go_wp2
          go_quiet (fail)
          go_wp2
          exact ⟨⟨k + 1, ys, by omega, by go_num, HO1.out, by omega, HD.out, below_drewN HB.out nq⟩, by simp [intOf]; omega⟩
        · rw [redS_app hxy] at HD
          have hq : (y == -x) = false := by simpa using hxy
          clear HO hyl
          go_wp2
          go_quiet (fail)
          go_wp2_with (at_builtin; refine wpList_append_own _ rfl _ _ 22 rfl w.heap.size 2 i0 _ 1 8 Try.underlying22 hi hz0 hz1 hz2 rfl (by decide) _ _ _ rfl (HO'.out.alloc _) ⟨wr.heap.size, 0, none⟩ 1 1 [.int .i64 x] rfl rfl ?c1 ?c2 ?c3 ?c4 ?c5 ?_)
          case c1 => exact new_cells' _ _ (by simp [World.drewN])
          case c2 => intro u hu; simp at hu; subst hu; rfl
          case c3 => unfold maxLen; omega
          case c4 => omega
          case c5 => have := HB.out.size; simp; omega
          intro v' w2 hown2 hgrow2 _
          have HB1 := Lib.hid (below_append' ((below_drewN HB.out nq).alloc (by have := HB.out.size; simpa using this) _) (by have := HB.out.size; simp; omega) HO'.out (by simp) hgrow2)
          have HO1 : Hid (w2.ownsRow w.heap.size 2 1 v' (ys ++ [y] ++ [x]).length (vI (ys ++ [y] ++ [x]))) := by unfold Hid; rw [vI_snoc', vI_snoc', List.length_append, List.length_append, List.append_assoc]; exact hown2
          clear hgrow2 hown2 HB HO'
          go_wp2
          exact ⟨⟨k + 1, ys ++ [y] ++ [x], by omega, by go_num, HO1.out, by simp; omega, HD.out, HB1.out⟩, by simp [intOf]; omega⟩
    · have HE2 := Lib.hid (show Y = acc by rw [HE.out, hd.out]; congr 2; omega)
      clear hb hown hd
      go_wp2
      go_ret
      exact ⟨_, rfl, by rw [HE2.out]; exact HO.out, HB.out⟩

end Go.Proofs.Ytfeonaocmnpkcaa

/-
  Letters moved in place, of the program: weigh.
-/
namespace Go.Proofs.Ytfeonaocmnpkcaa
set_option linter.unusedVariables false
set_option linter.unusedSimpArgs false
open Go.RowKit

/-- Only blocks of which S holds, and new ones, are other than before. -/
structure Tch (S : Nat → Prop) (w w' : World) : Prop where
  os : w'.os = w.os
  tape : w'.tape = w.tape
  output : w'.output = w.output
  size : w.heap.size ≤ w'.heap.size
  block : ∀ k, k < w.heap.size → ¬ S k → w'.heap[k]? = w.heap[k]?
theorem Tch.refl (S : Nat → Prop) (w : World) : Tch S w w := ⟨rfl, rfl, rfl, Nat.le_refl _, fun _ _ _ => rfl⟩
theorem Tch.trans {S : Nat → Prop} {a b c : World} (h : Tch S a b) (k : Tch S b c) : Tch S a c :=
  ⟨k.os.trans h.os, k.tape.trans h.tape, k.output.trans h.output, Nat.le_trans h.size k.size, fun g hg hS => (k.block g (Nat.lt_of_lt_of_le hg h.size) hS).trans (h.block g hg hS)⟩
theorem Tch.of_below {S : Nat → Prop} {a w : World} (h : Below a.heap.size a w) : Tch S a w := ⟨h.os, h.tape, h.output, h.size, fun k hk _ => h.block k hk⟩
theorem Tch.of_only {S : Nat → Prop} {lo hi : Nat} {a w : World} (h : Only lo hi a w) (hS : ∀ k, lo ≤ k → k < hi → S k) : Tch S a w :=
  ⟨h.os, h.tape, h.output, h.size, fun k hk hn => h.block k hk (by
    rcases Nat.lt_or_ge k lo with h1 | h1
    · exact .inl h1
    · rcases Nat.lt_or_ge k hi with h2 | h2
      · exact absurd (hS k h1 h2) hn
      · exact .inr h2)⟩
theorem Tch.mono {S S' : Nat → Prop} {a w : World} (h : Tch S a w) (hS : ∀ k, S k → S' k) : Tch S' a w := ⟨h.os, h.tape, h.output, h.size, fun k hk hn => h.block k hk fun hs => hn (hS k hs)⟩
theorem Tch.setCell {S : Nat → Prop} {a w : World} (h : Tch S a w) {p : Addr} (hp : S p.block) (u : Value) : Tch S a (w.setCell p u) :=
  h.trans (Tch.of_only ((Only.refl p.block (p.block + 1) w).setCell (Nat.le_refl _) (Nat.lt_succ_self _) u) fun k h1 h2 => by rw [show k = p.block by omega]; exact hp)
theorem Tch.drew {S : Nat → Prop} {a w : World} (h : Tch S a w) : Tch S a w.drew := ⟨h.os, h.tape, h.output, h.size, h.block⟩
theorem Tch.below {S : Nat → Prop} {B : Nat} {a w : World} (h : Tch S a w) (hS : ∀ k, S k → B ≤ k) (hB : B ≤ a.heap.size) : Below B a w :=
  ⟨h.os, h.tape, h.output, h.size, fun k hk => h.block k (by omega) fun hs => by have := hS k hs; omega⟩

/-- At least one move. -/
def Rch1 (n : Nat) (L L' : List Pm) : Prop := ∃ M, Mv n L M ∧ Rch n M L'
theorem Rch1.snoc {n : Nat} {L M L' : List Pm} (h : Rch n L M) (h1 : Mv n M L') : Rch1 n L L' := by
  induction h with
  | refl => exact ⟨_, h1, .refl⟩
  | head hm hr _ => exact ⟨_, hm, hr.trans (.one h1)⟩
theorem rch_mes {n : Nat} {L L' : List Pm} (hL : AllOn n L) (h : Rch n L L') : mes n L' ≤ mes n L := by
  induction h with
  | refl => exact Nat.le_refl _
  | head hm _ ih => have := mes_mv hL hm; have := ih (hL.mv hm); omega
theorem Rch1.mes {n : Nat} {L L' : List Pm} (hL : AllOn n L) (h : Rch1 n L L') : mes n L' < mes n L := by
  obtain ⟨M, hm, hr⟩ := h
  have := mes_mv hL hm
  have := rch_mes (hL.mv hm) hr
  omega

/-- An own row that holds a permutation. -/
structure RowP (n : Nat) (w : World) (g cap : Nat) (p : Pm) (f : Nat → Value) : Prop where
  row : w.rowIs g 2 cap f
  le : n ≤ cap
  cap : cap ≤ maxLen
  eq : ∀ j, j < n → f j = .int .i64 ((p.f j : Nat) : Int)
theorem RowP.rd {n : Nat} {w : World} {g cap : Nat} {p : Pm} {f : Nat → Value} (h : RowP n w g cap p f) : RdI w w.heap.size (.slice (some ⟨g, 0, none⟩) n cap) (lst n p) :=
  RdI.of_own (OwC.of_lst (lo := 0) h.row (Nat.zero_le _) h.le h.cap h.eq)
theorem RowP.block {n : Nat} {w w' : World} {g cap : Nat} {p : Pm} {f : Nat → Value} (h : RowP n w g cap p f) (hb : w'.heap[g]? = w.heap[g]?) : RowP n w' g cap p f := ⟨h.row.of_block hb, h.le, h.cap, h.eq⟩
theorem RowP.lt {n : Nat} {w : World} {g cap : Nat} {p : Pm} {f : Nat → Value} (h : RowP n w g cap p f) : g < w.heap.size := h.row.lt

set_option maxHeartbeats 8000000 in
set_option maxRecDepth 100000 in
theorem weigh_any (n : Nat) (hn2 : 2 ≤ n) (hn : n ≤ 12) (p q : Pm) (hpo : p.On n) (hqo : q.On n) (g1 g2 c1 c2 : Nat) (f1 f2 : Nat → Value) (w : World) (h1 : RowP n w g1 c1 p f1) (h2 : RowP n w g2 c2 q f2) (hne : g1 ≠ g2) :
    Calls Try.prog 105 #[.slice (some ⟨g1, 0, none⟩) n c1, .slice (some ⟨g2, 0, none⟩) n c2] w fun e w' => ∃ (ch : Bool) (p' q' : Pm) (f1' f2' : Nat → Value), e = .returned (.bool ch) ∧ Rch n [p, q] [p', q'] ∧
      (∀ k, 1 ≤ k → k < n → q'.start k → p'.fin k) ∧ (ch = false → p' = p ∧ q' = q) ∧ (ch = true → Rch1 n [p, q] [p', q']) ∧ RowP n w' g1 c1 p' f1' ∧ RowP n w' g2 c2 q' f2' ∧ Tch (fun b => b = g1 ∨ b = g2) w w' := by
  have H1 := Lib.hid h1
  have H2 := Lib.hid h2
  have HAO := Lib.hid (show AllOn n [p, q] by intro r hr; simp at hr; rcases hr with rfl | rfl; exact hpo; exact hqo)
  have hz1 := h1.lt
  have hz2 := h2.lt
  have hm1 := h1.cap
  have hm2 := h2.cap
  have hl1 := h1.le
  have hl2 := h2.le
  unfold maxLen at hm1 hm2
  clear h1 h2
  go_enter Try.func105, Try.ntmps105
  go_wp2
  go_loopg [5] (mes n [p, q]) (fun gk an wr => ∃ (ch : Bool) (a b : Pm) (F G : Nat → Value), an = .bool ch ∧ Hid (gk = mes n [a, b]) ∧ Hid (Rch n [p, q] [a, b]) ∧ Hid (ch = false → a = p ∧ b = q) ∧ Hid (ch = true → Rch1 n [p, q] [a, b]) ∧ Hid (RowP n wr g1 c1 a F) ∧ Hid (RowP n wr g2 c2 b G) ∧ Hid (Tch (fun b => b = g1 ∨ b = g2) w wr))
  case atStart => exact ⟨false, p, q, f1, f2, rfl, rfl, .refl, fun _ => ⟨rfl, rfl⟩, fun h => (by cases h), H1.out, H2.out, Tch.refl _ _⟩
  case round =>
    obtain ⟨ch, a, b, F, G, rfl, HG, HR, HF, HT, HA, HB, HW⟩ := hrel
    obtain ⟨gko, rfl⟩ : ∃ x : Nat, x = gk := ⟨_, rfl⟩
    obtain ⟨wo, rfl⟩ : ∃ x : World, x = wr := ⟨_, rfl⟩
    have HON := Lib.hid (HAO.out.rch HR.out)
    have HQ := Lib.hid (missing_any n (by omega) hn a b (HON.out a (by simp)) _ _ wo HA.out.rd HB.out.rd)
    by_cases hz : exP n a b = 0
    · have HZ := Lib.hid (exP_zero hz)
      rw [hz] at HQ
      clear hz
      go_wp2_with fail
      refine HQ.out.mono ?_
      rintro e w1 ⟨rfl, hb1⟩
      have HB1 := Lib.hid hb1
      clear hb1
      go_wp2
      go_ret
      exact ⟨ch, a, b, F, G, rfl, HR.out, HZ.out, HF.out, HT.out, HA.out.block (HB1.out.block _ HA.out.lt), HB.out.block (HB1.out.block _ HB.out.lt), HW.out.trans (Tch.of_below HB1.out)⟩
    · obtain ⟨k, hk, hk1, hkn, hks, hkf⟩ := exP_pos hz
      rw [hk] at HQ
      have HMV := Lib.hid (show Mv n [a, b] [a.behind k hk1, b.before k hk1] from .here k hk1 hkn hks hkf)
      have HMS := Lib.hid (mes_mv HON.out HMV.out)
      obtain ⟨j, rfl⟩ : ∃ j, k = j + 1 := ⟨k - 1, by omega⟩
      clear hk hks hkf hz
      go_wp2_with fail
      refine HQ.out.mono ?_
      rintro e w1 ⟨rfl, hb1⟩
      have HB1 := Lib.hid hb1
      have HA1 := Lib.hid (HA.out.block (hb1.block _ HA.out.lt))
      have HBB1 := Lib.hid (HB.out.block (hb1.block _ HB.out.lt))
      have HW1 := Lib.hid (HW.out.trans (Tch.of_below (S := fun b => b = g1 ∨ b = g2) hb1))
      clear hb1
      go_wp2
      go_loopg [17] n (fun gm i wi => ∃ (m : Nat) (F1 : Nat → Value), gm = n - m ∧ m ≤ n ∧ i = .int .i64 m ∧ Hid (wi.rowIs g1 2 c1 F1) ∧ Hid (∀ i, i < n → F1 i = .int .i64 (((if i < m then Pm.sw (j + 1) (a.f i) else a.f i) : Nat) : Int)) ∧ Hid (Only g1 (g1 + 1) w1 wi))
      case atStart => exact ⟨0, F, rfl, Nat.zero_le _, rfl, HA1.out.row, fun i hi => by rw [if_neg (by omega)]; exact HA1.out.eq i hi, Only.refl _ _ _⟩
      case round =>
        obtain ⟨m, F1, rfl, hm, rfl, HR1, HF1, HO1⟩ := hrel
        obtain ⟨wi, rfl⟩ : ∃ x : World, x = wr := ⟨_, rfl⟩
        by_cases hlt : m < n
        · have d0 := HR1.out.cell (i := m) (by omega)
          rw [HF1.out m hlt, if_neg (by omega)] at d0
          have g0 := fun i => HR1.out.frozen i
          have HN : Hid (∀ F' : Nat → Value, F' m = .int .i64 ((Pm.sw (j + 1) (a.f m) : Nat) : Int) → (∀ i, i ≠ m → F' i = F1 i) → ∀ i, i < n → F' i = .int .i64 (((if i < m + 1 then Pm.sw (j + 1) (a.f i) else a.f i) : Nat) : Int)) := by
            intro F' h1 h2 i hi
            by_cases h3 : i = m
            · subst h3; rw [if_pos (by omega)]; exact h1
            · rw [h2 i h3, HF1.out i hi]
              by_cases h4 : i < m
              · rw [if_pos h4, if_pos (by omega)]
              · rw [if_neg h4, if_neg (by omega)]
          have HFm := Lib.hid (HF1.out m hlt)
          rw [if_neg (by omega)] at HFm
          generalize hx : a.f m = x at d0 HN HFm
          clear hx
          by_cases h1 : x = j
          · have HV := Lib.hid (show (Pm.sw (j + 1) x : Nat) = j + 1 by rw [h1]; have := Pm.sw_l (k := j + 1) (by omega); rw [Nat.add_sub_cancel] at this; exact this)
            subst h1
            have b3 : ((x : Int) == (x : Int) + 1) = false := by simp; omega
            go_wp2
            go_roundg (n - (m + 1))
            case measure => omega
            case rel => exact ⟨m + 1, _, rfl, by omega, by go_num, HR1.out.set m _, HN.out _ (by show (if m = m then _ else _) = _; rw [if_pos rfl, HV.out]; rfl) (fun i hi => by show (if i = m then _ else _) = _; rw [if_neg hi]), HO1.out.setCell (Nat.le_refl _) (Nat.lt_succ_self _) _⟩
          · by_cases h2 : x = j + 1
            · have HV := Lib.hid (show (Pm.sw (j + 1) x : Nat) = j by rw [h2, Pm.sw_r]; simp)
              subst h2
              have b1 : (((j : Int) + 1) == (j : Int)) = false := by simp; omega
              go_wp2
              go_roundg (n - (m + 1))
              case measure => omega
              case rel => exact ⟨m + 1, _, rfl, by omega, by go_num, HR1.out.set m _, HN.out _ (by show (if m = m then _ else _) = _; rw [if_pos rfl, HV.out]; try simp) (fun i hi => by show (if i = m then _ else _) = _; rw [if_neg hi]), HO1.out.setCell (Nat.le_refl _) (Nat.lt_succ_self _) _⟩
            · have b1 : ((x : Int) == (j : Int)) = false := by simp; omega
              have b2 : ((x : Int) == (j : Int) + 1) = false := by simp; omega
              have HV := Lib.hid (show (Pm.sw (j + 1) x : Nat) = x by rw [Pm.sw_o h2 (by omega)])
              clear h1 h2
              go_wp2
              go_roundg (n - (m + 1))
              case measure => omega
              case rel => exact ⟨m + 1, F1, rfl, by omega, by go_num, HR1.out, HN.out F1 (by rw [HV.out]; exact HFm.out) (fun i hi => rfl), HO1.out⟩
        · obtain rfl : m = n := by omega
          have HP2 := Lib.hid (show RowP m wi g1 c1 (a.behind (j + 1) hk1) F1 from ⟨HR1.out, hl1, HA1.out.cap, fun i hi => by rw [HF1.out i hi, if_pos hi]; rfl⟩)
          have HQ2 := Lib.hid (HBB1.out.block (HO1.out.block g2 HBB1.out.lt (by omega)))
          have d0 := HQ2.out.row.cell (i := j) (by omega)
          have d1 := HQ2.out.row.cell (i := j + 1) (by omega)
          have g0 := fun i => HQ2.out.row.frozen i
          rw [HQ2.out.eq j (by omega)] at d0
          rw [HQ2.out.eq (j + 1) (by omega)] at d1
          have HE := Lib.hid HQ2.out.eq
          have HBF : Hid (∀ F' : Nat → Value, F' j = .int .i64 ((b.f (j + 1) : Nat) : Int) → F' (j + 1) = .int .i64 ((b.f j : Nat) : Int) → (∀ i, i ≠ j → i ≠ j + 1 → F' i = G i) → ∀ i, i < m → F' i = .int .i64 (((b.before (j + 1) hk1).f i : Nat) : Int)) := by
            intro F' h1 h2 h3 i hi
            show _ = Value.int .i64 ((b.f (Pm.sw (j + 1) i) : Nat) : Int)
            by_cases e1 : i = j + 1
            · subst e1; rw [Pm.sw_r, h2]; rfl
            · by_cases e2 : i = j
              · subst e2
                have := Pm.sw_l (k := i + 1) (by omega)
                rw [Nat.add_sub_cancel] at this
                rw [this, h1]
              · rw [Pm.sw_o e1 (by omega), h3 i e2 e1, HE.out i hi]
          generalize b.f (j + 1) = y at d1 HBF
          generalize b.f j = x at d0 HBF
          have hja : (j : Int) + 1 < m := by omega
          have hne1 : ¬ j = j + 1 := by omega
          have hne2 : ¬ j + 1 = j := by omega
          go_wp2
          go_region
          all_goals
            go_wp2
            go_roundg (mes m [a.behind (j + 1) hk1, b.before (j + 1) hk1])
            case measure => rw [HG.out]; exact HMS.out
            case rel =>
              refine ⟨true, _, _, F1, _, rfl, rfl, HR.out.trans (.one HMV.out), fun h => (by cases h), fun _ => Rch1.snoc HR.out HMV.out, ?_, ⟨((HQ2.out.row.set j (.int .i64 (y : Int))).set (j + 1) (.int .i64 (x : Int))).drew, hl2, HQ2.out.cap, HBF.out _ ?_ ?_ ?_⟩, ?_⟩
              · exact HP2.out.block (((Only.refl g2 (g2 + 1) wi).setCell (p := ⟨g2, j, none⟩) (Nat.le_refl _) (Nat.lt_succ_self _) _).setCell (p := ⟨g2, j + 1, none⟩) (Nat.le_refl _) (Nat.lt_succ_self _) _ |>.block g1 HP2.out.lt (by omega))
              · show (if j = j + 1 then _ else if j = j then _ else _) = _
                rw [if_neg hne1, if_pos rfl]
              · show (if j + 1 = j + 1 then _ else _) = _
                rw [if_pos rfl]
              · intro i h1 h2
                show (if i = j + 1 then _ else if i = j then _ else _) = _
                rw [if_neg h2, if_neg h1]
              · exact ((((HW1.out.trans (Tch.of_only HO1.out fun k h1 h2 => .inl (by omega))).setCell (p := ⟨g2, j, none⟩) (.inr rfl) _).setCell (p := ⟨g2, j + 1, none⟩) (.inr rfl) _)).drew

end Go.Proofs.Ytfeonaocmnpkcaa
