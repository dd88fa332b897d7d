/-
  The reference's small words on a machine of its own: l07Bed, l07On, l07Set, l07Carry, l07In.
-/
import Derived.Test.YtogaellhkjjeaaaDo1
import Derived.Test.YtogaellhkjjeaaaMs3
import Derived.Test.YtogaellhkjjeaaaSrc
import Derived.Test.YtogaellhkjjeaaaMcLive
namespace Go.Proofs.Ytogaellhkjjeaaa
set_option linter.unusedVariables false
set_option linter.unusedSimpArgs false
open Go.RowKit


theorem l07Bed_s {w : World} {B g : Nat} {m : Mc} {S : Nat → Spot} (h : MSt w B g m S) (b : Int) (hb : b = 1 ∨ b = 2) : Calls Try.prog 197 #[.pointer (some ⟨g, 0, none⟩), .int .i64 b] w fun e w' => e = .returned (bedV S b) ∧ w = w' := by
  obtain ⟨x0, x1, x2, x3, x4, x5, x6⟩ := h.cells.seven
  rcases hb with rfl | rfl
  · have HV := Lib.hid (show bedV S 1 = (S 1).v from rfl)
    clear h
    go_enter Try.func197, Try.ntmps197
    go_wp2
    go_ret
    exact ⟨by rw [HV.out]; rfl, rfl⟩
  · have HV := Lib.hid (show bedV S 2 = (S 2).v from rfl)
    clear h
    go_enter Try.func197, Try.ntmps197
    go_wp2
    go_ret
    exact ⟨by rw [HV.out]; rfl, rfl⟩
set_option maxHeartbeats 1000000 in
theorem l07On_any {w : World} {B g : Nat} {m : Mc} {S : Nat → Spot} (h : MSt w B g m S) (n : Int × Int) (hn : ndIn m n) : Calls Try.prog 147 #[.pointer (some ⟨g, 0, none⟩), .agg #[.int .i64 n.1, .int .i64 n.2]] w fun e w' => e = .returned (S (iN n)).v ∧ Below w.heap.size w w' := by
  obtain ⟨nb, na⟩ := n
  have hW : Below w.heap.size w (w.alloc (.cells #[.int .i64 nb, .int .i64 na] 56)) := (Below.refl _ _).alloc (Nat.le_refl _) _
  have HB := Lib.hid hW
  have HM := Lib.hid (h.below hW)
  obtain ⟨b, c, L, hv, hlt, -, hbw, -, hcell, -, -⟩ := HM.out.nd hn
  obtain ⟨hb12, h0, -⟩ := hn
  have hb12' : nb = 1 ∨ nb = 2 := hb12
  have h0' : 0 ≤ na := h0
  have hlt' : na < (L : Int) := hlt
  obtain ⟨ka, rfl⟩ := Int.eq_ofNat_of_zero_le h0'
  have hcell' : (w.alloc (.cells #[.int .i64 nb, .int .i64 (ka : Int)] 56)).cell? ⟨b, ka, none⟩ = some (S (iN (nb, (ka : Int)))).v := hcell
  have HQ := Lib.hid (fun k => l07Bed_s (HM.out.drewN k) nb hb12')
  have hv' : bedV S nb = _ := hv
  rw [hv'] at HQ
  generalize (S (iN (nb, (ka : Int)))).v = R at *
  clear h hv hlt h0 h0' hb12 hcell hv' hW hb12'
  go_enter Try.func147, Try.ntmps147
  go_wp2
  go_quiet ((go_at_call 197; exact quiet_s (HQ.out _)))
  go_wp2
  go_ret
  exact ⟨rfl, below_drewN HB.out _⟩
/-- The machine behind a step. -/
def Did (w0 : World) (S0 : Nat → Spot) (B g : Nat) (v : Value) (m : Mc) (e : Ending) (w' : World) : Prop := e = .returned v ∧ ∃ S', MSt w' B g m S' ∧ Mv w0 S0 w' S'
set_option maxHeartbeats 1000000 in
theorem l07Set_any {w w0 : World} {B g : Nat} {m : Mc} {S S0 : Nat → Spot} (h : MSt w B g m S) (n : Int × Int) (hn : ndIn m n) (v : Value) (l : List Int) (hsp : SpotsT w B (putS S (iN n) (spI v l))) (hmv : Mv w0 S0 w (putS S (iN n) (spI v l))) :
    Calls Try.prog 175 #[.pointer (some ⟨g, 0, none⟩), .agg #[.int .i64 n.1, .int .i64 n.2], v] w (Did w0 S0 B g (.tuple #[]) (setL m n l)) := by
  obtain ⟨Av, cv, rfl, -⟩ : ∃ A c, v = .slice A l.length c ∧ True := by
    have h1 := hsp.own (iN n)
    rw [putS_same] at h1
    obtain ⟨A, c, h2, -⟩ := (OwC.of_own h1).cells
    exact ⟨A, c, h2, trivial⟩
  obtain ⟨nb, na⟩ := n
  have hW : Below w.heap.size w (w.alloc (.cells #[.int .i64 nb, .int .i64 na] 56)) := (Below.refl _ _).alloc (Nat.le_refl _) _
  have HM := Lib.hid (h.below hW)
  obtain ⟨b, c, L, hv, hlt, -, hbw, -, hcell, hfr, -, hset⟩ := HM.out.nd hn
  have HSET := Lib.hid (hset _ l _ (hsp.below hW))
  have HMV := Lib.hid (hmv.below_ hW)
  obtain ⟨hb12, h0, -⟩ := hn
  have hb12' : nb = 1 ∨ nb = 2 := hb12
  have h0' : 0 ≤ na := h0
  have hlt' : na < (L : Int) := hlt
  obtain ⟨ka, rfl⟩ := Int.eq_ofNat_of_zero_le h0'
  have hcell' : (w.alloc (.cells #[.int .i64 nb, .int .i64 (ka : Int)] 56)).cell? ⟨b, ka, none⟩ = some (S (iN (nb, (ka : Int)))).v := hcell
  have hfr' := hfr ka
  have HQ := Lib.hid (l07Bed_s HM.out nb hb12')
  have hv' : bedV S nb = _ := hv
  rw [hv'] at HQ
  generalize (S (iN (nb, (ka : Int)))).v = R at *
  clear h hv hlt h0 h0' hb12 hcell hv' hW hb12' hset hfr hsp hmv
  go_enter Try.func175, Try.ntmps175
  go_wp2_with fail
  refine (HQ.out).mono ?_
  rintro e w1 ⟨rfl, rfl⟩
  go_wp2
  go_end0
  obtain ⟨S', k1, k2⟩ := HSET.out
  exact ⟨rfl, S', k1, k2 _ _ HMV.out⟩

/-- A store elsewhere, as a rule for the walk. -/
theorem far_cell {bc b : Nat} (h : bc ≠ b) (W : World) (i : Nat) (u : Value) (ob : Nat) : (W.setCell ⟨bc, i, none⟩ u).cell? ⟨b, ob, none⟩ = W.cell? ⟨b, ob, none⟩ := World.cell?_setCell_other _ _ _ _ (by intro e; injection e with e; exact h e)
/-- A store beside, as a rule for the walk. -/
theorem near_cell {i i' : Nat} (h : i ≠ i') (b : Nat) (W : World) (u : Value) : (W.setCell ⟨b, i, none⟩ u).cell? ⟨b, i', none⟩ = W.cell? ⟨b, i', none⟩ := World.cell?_setCell_other _ _ _ _ (by intro e; injection e with _ e; exact h e)
/-- A pointer to an operation: where its cells lie. -/
abbrev OpAt (w : World) (b o : Nat) (x : Opr) : Prop := CellsAt w b o x.cells
theorem MSt.cars {w : World} {B g : Nat} {m : Mc} {S : Nat → Spot} (h : MSt w B g m S) (c : Int) (h1 : 1 ≤ c) (h4 : c - 1 < (m.cs.length : Int)) : ∃ b cp, (S 3).v = .slice (some ⟨b, 0, none⟩) m.cs.length cp ∧ blk S b ∧ B ≤ b ∧ b < w.heap.size ∧ (S 3).v.ownBlock = some b ∧
    w.cell? ⟨b, (c - 1).toNat * 2, none⟩ = some (.bool (carAt m c).i) ∧ w.cell? ⟨b, (c - 1).toNat * 2 + 1, none⟩ = some (.int .i64 (carAt m c).p) ∧ ∀ o, w.frozen? ⟨b, o, none⟩ = false := by
  obtain ⟨b, cp, hv, hB, hbw, hcp, ho⟩ := h.gC (by omega)
  have hk : (c - 1).toNat < m.cs.length := by omega
  have hx : m.cs[(c - 1).toNat]? = some (carAt m c) := by unfold carAt; rw [List.getD_eq_getElem?_getD, List.getElem?_eq_getElem hk]; rfl
  have h0 := vS_get Car.len m.cs (c - 1).toNat _ hx 0 (by omega)
  have h1' := vS_get Car.len m.cs (c - 1).toNat _ hx 1 (by omega)
  obtain ⟨c0, f0⟩ := Spot.cell (h.sp.own 3) ho (x := .bool (carAt m c).i) (i := (c - 1).toNat * 2) (by rw [h.cs]; exact h0)
  obtain ⟨c1, -⟩ := Spot.cell (h.sp.own 3) ho (x := .int .i64 (carAt m c).p) (i := (c - 1).toNat * 2 + 1) (by rw [h.cs]; exact h1')
  exact ⟨b, cp, hv, ⟨3, ho⟩, hB, hbw, ho, c0, c1, f0⟩
/-- The two cells of a carrier. -/
theorem vS_car {l : List Car} {k : Nat} {x : Car} (hk : k < l.length) (i : Bool) (p : Int) : ((vS Car.cells l).set (k * 2) (.bool i)).set (k * 2 + 1) (.int .i64 p) = vS Car.cells (l.set k ⟨i, p⟩) := by
  refine vS_ext Car.len (by omega) (by rw [List.length_set, List.length_set, List.length_set, vS_len Car.len]) (fun q y hy j hj => ?_)
  have hq : q < l.length := by have := (List.getElem?_eq_some_iff.1 hy).1; rwa [List.length_set] at this
  have hl := vS_len Car.len l
  by_cases e : q = k
  · subst e
    rw [List.getElem?_set_self hq] at hy
    injection hy with hy
    subst hy
    obtain rfl | rfl : j = 0 ∨ j = 1 := by omega
    · rw [List.getElem?_set_ne (by omega), Nat.add_zero, List.getElem?_set_self (by omega)]; rfl
    · rw [List.getElem?_set_self (by rw [List.length_set]; omega)]; rfl
  · rw [List.getElem?_set_ne (fun e' => e e'.symm)] at hy
    rw [List.getElem?_set_ne (by omega), List.getElem?_set_ne (by omega)]
    exact vS_get Car.len l q y hy j hj
theorem vS_carp {l : List Car} {k : Nat} {x : Car} (hx : l[k]? = some x) (p : Int) : (vS Car.cells l).set (k * 2 + 1) (.int .i64 p) = vS Car.cells (l.set k ⟨x.i, p⟩) := by
  have hk := (List.getElem?_eq_some_iff.1 hx).1
  rw [← vS_car (x := x) hk x.i p]
  congr 1
  have h0 := vS_get Car.len l k x hx 0 (by omega)
  apply List.ext_getElem?
  intro i
  by_cases e : i = k * 2
  · subst e
    rw [List.getElem?_set_self (by have := vS_len Car.len l; omega)]
    exact h0
  · rw [List.getElem?_set_ne (fun e' => e e'.symm)]
/-- A carrier is moved. -/
theorem MSt.setCp {w w0 : World} {B g b : Nat} {m : Mc} {S S0 : Nat → Spot} (h : MSt w B g m S) {c : Int} (h1 : 1 ≤ c) (h4 : c - 1 < (m.cs.length : Int)) (ho : (S 3).v.ownBlock = some b) (p : Int) (hm : Mv w0 S0 w S) :
    ∃ S', MSt (w.setCell ⟨b, (c - 1).toNat * 2 + 1, none⟩ (.int .i64 p)) B g (setC m c ⟨(carAt m c).i, p⟩) S' ∧ Mv w0 S0 (w.setCell ⟨b, (c - 1).toNat * 2 + 1, none⟩ (.int .i64 p)) S' ∧ (S' 3).v.ownBlock = some b := by
  have hk : (c - 1).toNat < m.cs.length := by omega
  have hx : m.cs[(c - 1).toNat]? = some (carAt m c) := by unfold carAt; rw [List.getD_eq_getElem?_getD, List.getElem?_eq_getElem hk]; rfl
  have hxs : (S 3).xs = vS Car.cells m.cs := by rw [h.cs]
  have hnz : (S 3).n * (S 3).sz = m.cs.length * 2 := by rw [h.cs]
  have hsp := h.sp.setCell (p := 3) (g := b) (i := (c - 1).toNat * 2 + 1) ho (.int .i64 p) (by rw [hnz]; omega)
  refine ⟨_, h.setCs (cs' := m.cs.set (c - 1).toNat ⟨(carAt m c).i, p⟩) (xs' := (S 3).xs.set ((c - 1).toNat * 2 + 1) (.int .i64 p)) (by rw [List.length_set]) (by rw [hxs]; exact vS_carp hx p) hsp, hm.setCell ho _ _, by rw [putS_same]; exact ho⟩
theorem vS_cari {l : List Car} {k : Nat} {x : Car} (hx : l[k]? = some x) (i : Bool) : (vS Car.cells l).set (k * 2) (.bool i) = vS Car.cells (l.set k ⟨i, x.p⟩) := by
  have hk := (List.getElem?_eq_some_iff.1 hx).1
  rw [← vS_car (x := x) hk i x.p, List.set_comm _ _ (by omega)]
  congr 1
  have h0 := vS_get Car.len l k x hx 1 (by omega)
  apply List.ext_getElem?
  intro q
  by_cases e : q = k * 2 + 1
  · subst e
    rw [List.getElem?_set_self (by have := vS_len Car.len l; omega)]
    exact h0
  · rw [List.getElem?_set_ne (fun e' => e e'.symm)]
/-- A carrier is in, or out. -/
theorem MSt.setCi {w w0 : World} {B g b : Nat} {m : Mc} {S S0 : Nat → Spot} (h : MSt w B g m S) {c : Int} (h1 : 1 ≤ c) (h4 : c - 1 < (m.cs.length : Int)) (ho : (S 3).v.ownBlock = some b) (i : Bool) (hm : Mv w0 S0 w S) :
    ∃ S', MSt (w.setCell ⟨b, (c - 1).toNat * 2, none⟩ (.bool i)) B g (setC m c ⟨i, (carAt m c).p⟩) S' ∧ Mv w0 S0 (w.setCell ⟨b, (c - 1).toNat * 2, none⟩ (.bool i)) S' ∧ (S' 3).v.ownBlock = some b := by
  have hk : (c - 1).toNat < m.cs.length := by omega
  have hx : m.cs[(c - 1).toNat]? = some (carAt m c) := by unfold carAt; rw [List.getD_eq_getElem?_getD, List.getElem?_eq_getElem hk]; rfl
  have hxs : (S 3).xs = vS Car.cells m.cs := by rw [h.cs]
  have hnz : (S 3).n * (S 3).sz = m.cs.length * 2 := by rw [h.cs]
  have hsp := h.sp.setCell (p := 3) (g := b) (i := (c - 1).toNat * 2) ho (.bool i) (by rw [hnz]; omega)
  refine ⟨_, h.setCs (cs' := m.cs.set (c - 1).toNat ⟨i, (carAt m c).p⟩) (xs' := (S 3).xs.set ((c - 1).toNat * 2) (.bool i)) (by rw [List.length_set]) (by rw [hxs]; exact vS_cari hx i) hsp, hm.setCell ho _ _, by rw [putS_same]; exact ho⟩
/-- A carrier is brought in or out. -/
theorem MSt.setCb {w w0 : World} {B g b : Nat} {m : Mc} {S S0 : Nat → Spot} (h : MSt w B g m S) {c : Int} (h1 : 1 ≤ c) (h4 : c - 1 < (m.cs.length : Int)) (ho : (S 3).v.ownBlock = some b) (i : Bool) (p : Int) (hm : Mv w0 S0 w S) :
    ∃ S', MSt ((w.setCell ⟨b, (c - 1).toNat * 2, none⟩ (.bool i)).setCell ⟨b, (c - 1).toNat * 2 + 1, none⟩ (.int .i64 p)) B g (setC m c ⟨i, p⟩) S' ∧ Mv w0 S0 ((w.setCell ⟨b, (c - 1).toNat * 2, none⟩ (.bool i)).setCell ⟨b, (c - 1).toNat * 2 + 1, none⟩ (.int .i64 p)) S' ∧ (S' 3).v.ownBlock = some b := by
  have hk : (c - 1).toNat < m.cs.length := by omega
  have hx : m.cs[(c - 1).toNat]? = some (carAt m c) := by unfold carAt; rw [List.getD_eq_getElem?_getD, List.getElem?_eq_getElem hk]; rfl
  have hxs : (S 3).xs = vS Car.cells m.cs := by rw [h.cs]
  have hnz : (S 3).n * (S 3).sz = m.cs.length * 2 := by rw [h.cs]
  have hsp := h.sp.setCell (p := 3) (g := b) (i := (c - 1).toNat * 2) ho (.bool i) (by rw [hnz]; omega)
  have e1 : putS S 3 { S 3 with xs := (S 3).xs.set ((c - 1).toNat * 2) (.bool i) } 3 = { S 3 with xs := (S 3).xs.set ((c - 1).toNat * 2) (.bool i) } := putS_same _ _ _
  have hsp2 := hsp.setCell (p := 3) (g := b) (i := (c - 1).toNat * 2 + 1) (by rw [e1]; exact ho) (.int .i64 p) (by rw [e1]; show _ < (S 3).n * (S 3).sz; rw [hnz]; omega)
  have hm2 := (hm.setCell ho (.bool i) ((S 3).xs.set ((c - 1).toNat * 2) (.bool i)) (i := (c - 1).toNat * 2)).setCell (p := 3) (g := b) (i := (c - 1).toNat * 2 + 1) (by rw [e1]; exact ho) (.int .i64 p) (((S 3).xs.set ((c - 1).toNat * 2) (.bool i)).set ((c - 1).toNat * 2 + 1) (.int .i64 p))
  rw [e1] at hsp2 hm2
  have e2 : putS (putS S 3 { S 3 with xs := (S 3).xs.set ((c - 1).toNat * 2) (.bool i) }) 3 { S 3 with xs := ((S 3).xs.set ((c - 1).toNat * 2) (.bool i)).set ((c - 1).toNat * 2 + 1) (.int .i64 p) } = putS S 3 { S 3 with xs := ((S 3).xs.set ((c - 1).toNat * 2) (.bool i)).set ((c - 1).toNat * 2 + 1) (.int .i64 p) } := by
    funext j
    by_cases e : j = 3
    · rw [e, putS_same, putS_same]
    · rw [putS_ne e, putS_ne e, putS_ne e]
  rw [e2] at hsp2 hm2
  exact ⟨_, h.setCs (cs' := m.cs.set (c - 1).toNat ⟨i, p⟩) (by rw [List.length_set]) (by rw [hxs]; exact vS_car (x := ⟨i, p⟩) hk i p) hsp2, hm2, by rw [putS_same]; exact ho⟩

end Go.Proofs.Ytogaellhkjjeaaa
