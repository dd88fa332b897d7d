/-
  Copies of machines: what the laws' toInt64SS, toCarrierS, toInfoS, toMachine do.
-/
import Derived.Test.YtccdnmafakaleaaDoorMc
import Derived.Test.YtccdnmafakaleaaDoorInt
namespace Go.Proofs.YtccdnmafakaleaaDoor
set_option linter.unusedVariables false
set_option linter.unusedSimpArgs false
open Go.RowKit

theorem info_sl : (Tryd.prog.info? 25).map (fun i => (i.zero, i.size, i.bytes)) = some (some (.slice none 0 0), 1, 24) := by kernel_rfl

set_option maxHeartbeats 4000000 in
set_option maxRecDepth 100000 in
theorem toInt64SS_any (v : Value) (l : List (List Int)) (w : World) (hl : RdLL w w.heap.size v l) (hlen : l.length ≤ 1048576) (hls : ∀ x ∈ l, x.length ≤ 1048576) :
    Calls Tryd.prog 25 #[v] w (GivesN oLL 25 1 w l) := by
  obtain ⟨A, cp, rfl⟩ := hl.shape
  generalize hln : l.length = n at *
  have HL := Lib.hid hl
  have HLN := Lib.hid hln
  have HLS := Lib.hid hls
  clear hl hln hls
  have hmk := fun W => run_make_row' (P := Tryd.prog) 22 25 (.slice none 0 0) 24 Tryd.underlying22 info_sl rfl .i64 .i64 n (by omega) (by omega) W
  go_enter Tryd.func25, Tryd.ntmps25
  go_wp2
  clear hmk
  go_loopw [4] (fun i wr => ∃ (k : Nat) (f : Nat → Value) (c : Nat → Nat), k ≤ n ∧ i = .int .i64 k ∧ wr.rowIs w.heap.size 25 n f ∧ Wins w.heap.size k c wr.heap.size ∧
    Hid (∀ j x, j < k → l[j]? = some x → OwC wr (c j) (c (j + 1)) 2 1 (f j) x.length (vI x)) ∧ Below w.heap.size w wr) (fun i _ => n - (intOf i).toNat)
  case atStart => exact ⟨0, _, fun _ => w.heap.size + 1, Nat.zero_le _, rfl, World.rowIs_made _ _ _ _, ⟨rfl, fun _ _ _ _ => Nat.le_refl _, by simp⟩, fun j x hj => absurd hj (by omega), (Below.refl _ _).alloc (Nat.le_refl _) _⟩
  case round =>
    rename_i wr
    obtain ⟨k, f, c, hk, rfl, hrow, hwin, hf, hb⟩ := hrel
    by_cases hlt : k < n
    · obtain ⟨b, off, x, s, rfl, hbb, hlk, hc, hs⟩ := (RdLL.below HL.out hb).at_ hlt
      have HX := Lib.hid (HLS.out x (List.mem_of_getElem? hlk))
      obtain ⟨A1, n1, c1, rfl⟩ := RdI.shape' hs
      have HS := Lib.hid (hs.more hb.size)
      have HB := Lib.hid hb
      have HR := Lib.hid hrow
      have Hl := Lib.hid hlk
      have HW := Lib.hid hwin
      clear hb hrow hlk hs hwin
      go_wp2_with fail
      refine (toInt64S_any _ x _ HS.out HX.out).mono ?_
      rintro e w1 ⟨v1, rfl, ho, hb1⟩
      have hrow := HR.out.of_block (hb1.block _ HR.out.lt)
      have d0 := hrow.cell (i := k) (by omega)
      have g0 := fun i => hrow.frozen i
      obtain ⟨A2, c2, rfl, -⟩ := ho.cells
      have HO := Lib.hid ho
      have HB1 := Lib.hid hb1
      have HR1 := Lib.hid hrow
      clear ho hb1 hrow
      go_wp2
      have hw0 := HW.out.zero
      have hwt := HW.out.top
      have hwm := HW.out.mono
      have hsz := HB1.out.size
      have hgk := hwm 0 k (by omega) (Nat.le_refl _)
      refine ⟨⟨k + 1, _, _, by omega, by go_num, HR1.out.set _ _, (by have := HW.out.next hsz; simpa using this), fun j y hj hy => ?_, (HB.out.trans (HB1.out.mono HB.out.size)).setCell (Nat.le_refl _) _⟩, by simp [intOf]; omega⟩
      have hon : Only w.heap.size (w.heap.size + 1) w1 (w1.setCell ⟨w.heap.size, k, none⟩ (.slice A2 x.length c2)) := (Only.refl _ _ _).setCell (by simp) (by simp) _
      by_cases hjk : j = k
      · subst hjk
        have hxy : x = y := by have := Hl.out; rw [this] at hy; injection hy
        subst hxy
        have hk1 : ¬ j + 1 ≤ j := by omega
        simp only [Nat.le_refl, if_true, hk1, if_false]
        exact ((HO.out.wide (by omega) (Nat.le_refl _)).only hon (.inr (by omega)) (Nat.le_refl _))
      · have hjk1 : j ≤ k := by omega
        have hjk2 : j + 1 ≤ k := by omega
        simp only [hjk, if_false, hjk1, hjk2, if_true]
        have hmj := hwm (j + 1) k (by omega) (Nat.le_refl _)
        have h0j := hwm 0 j (by omega) (by omega)
        exact ((hf.out j y (by omega) hy).below (HB1.out.mono (by omega))).only hon (.inr (by omega)) (by omega)
    · have HB := Lib.hid hb
      have HR := Lib.hid hrow
      have HW := Lib.hid hwin
      clear hb hrow hwin
      go_wp2
      go_ret
      obtain rfl : k = n := by omega
      refine ⟨_, rfl, OwN.of_wins HLN.out HW.out (by rw [Nat.mul_one]; exact HR.out) (by unfold maxLen; omega) (fun j x hj hx => ⟨f j, by simp, hf.out j x hj hx⟩), HB.out⟩

theorem info_car : (Tryd.prog.info? 105).map (fun i => (i.zero, i.size, i.bytes)) = some (some (.agg #[.bool false, .int .i64 0]), 2, 16) := by kernel_rfl
set_option maxHeartbeats 1000000 in
theorem toCarrier_any (c : Car) (w : World) : Calls Tryd.prog 62 #[.agg #[.bool c.i, .int .i64 c.p]] w fun x w' => x = .returned (.agg #[.bool c.i, .int .i64 c.p]) ∧ Below w.heap.size w w' := by
  go_enter Tryd.func62, Tryd.ntmps62
  go_wp2
  refine bodyPost_ret (v := .agg #[.bool c.i, .int .i64 c.p]) (by simp [results, Tryd.results62, go_sem]) rfl ⟨rfl, ?_⟩
  exact (((Below.refl _ _).alloc (Nat.le_refl _) _).alloc (by simp) _).alloc (by simp; omega) _

theorem rowIs_set2 {w : World} {b t n : Nat} {f : Nat → Value} (h : w.rowIs b t n f) (o : Nat) (u0 u1 : Value) :
    ((w.setCell ⟨b, o, none⟩ u0).setCell ⟨b, o + 1, none⟩ u1).rowIs b t n (fun j => if j = o + 1 then u1 else if j = o then u0 else f j) := (h.set _ _).set _ _
theorem fill2 {α : Type} {cs : α → List Value} {f : Nat → Value} {l : List α} {k : Nat} {x : α} {u0 u1 : Value} (hx : l[k]? = some x) (hc : cs x = [u0, u1])
    (hf : ∀ q x, q < k → l[q]? = some x → ∀ j, j < 2 → some (f (q * 2 + j)) = (cs x)[j]?) :
    ∀ q x, q < k + 1 → l[q]? = some x → ∀ j, j < 2 → some ((fun j => if j = k * 2 + 1 then u1 else if j = k * 2 then u0 else f j) (q * 2 + j)) = (cs x)[j]? := by
  intro q y hq hy j hj
  by_cases hqk : q = k
  · subst hqk
    rw [hx] at hy
    injection hy with hy
    subst hy
    rw [hc]
    obtain rfl | rfl : j = 0 ∨ j = 1 := by omega
    all_goals simp
  · show some (if q * 2 + j = k * 2 + 1 then u1 else if q * 2 + j = k * 2 then u0 else f (q * 2 + j)) = _
    rw [if_neg (by omega), if_neg (by omega)]
    exact hf q y (by omega) hy j hj

set_option maxHeartbeats 1000000 in
theorem toCarrierS_any (v : Value) (l : List Car) (w : World) (hl : RdCs w w.heap.size v l) (hlen : l.length ≤ 1048576) :
    Calls Tryd.prog 26 #[v] w (GivesOw w 105 2 l.length (vS Car.cells l)) := by
  obtain ⟨A, n, c, rfl, hln, hl, gl⟩ := hl
  have hn : n ≤ 1048576 := by have := hl.out; omega
  clear hlen
  have hmk := fun W => run_make_rowsN (P := Tryd.prog) 30 105 _ 2 16 Tryd.underlying30 info_car .i64 .i64 n (by omega) (by omega) W
  go_enter Tryd.func26, Tryd.ntmps26
  go_wp2
  clear hmk
  go_loopw [4] (fun i wr => ∃ (k : Nat) (f : Nat → Value), k ≤ n ∧ i = .int .i64 k ∧ wr.rowIs w.heap.size 105 (n * 2) f ∧ Hid (∀ q x, q < k → l[q]? = some x → ∀ j, j < 2 → some (f (q * 2 + j)) = x.cells[j]?) ∧ Below w.heap.size w wr) (fun i _ => n - (intOf i).toNat)
  case atStart => exact ⟨0, _, Nat.zero_le _, rfl, rowIs_madeN _ _ _ _, fun j x hj => absurd hj (by omega), (Below.refl _ _).alloc (Nat.le_refl _) _⟩
  case round =>
    rename_i wr
    obtain ⟨k, f, hk, rfl, hrow, hf, hb⟩ := hrel
    by_cases hlt : k < n
    · obtain ⟨b, off, x, rfl, hbb, hlk, hc⟩ := gl k hlt
      obtain ⟨c0, c1⟩ := (hc.below hb hbb).two
      have HB := Lib.hid hb
      have HR := Lib.hid hrow
      have Hl := Lib.hid hlk
      clear hc hb hrow hlk gl
      go_wp2_with (go_at_call 62; refine (toCarrier_any _ _).mono ?_; rintro e w1 ⟨rfl, hb1⟩; have hrow := HR.out.of_block (hb1.block _ HR.out.lt); have d0 := hrow.cell (i := k * 2) (by omega); have d1 := hrow.cell (i := k * 2 + 1) (by omega); have g0 := fun i => hrow.frozen i)
      exact ⟨⟨k + 1, _, by omega, by go_num, rowIs_set2 hrow _ _ _, fill2 Hl.out rfl hf.out, ((HB.out.trans (hb1.mono HB.out.size)).setCell (Nat.le_refl _) _).setCell (Nat.le_refl _) _⟩, by simp [intOf]; omega⟩
    · have HB := Lib.hid hb
      have HR := Lib.hid hrow
      clear hb hrow
      go_wp2
      go_ret
      obtain rfl : k = n := by omega
      exact ⟨.slice (some ⟨w.heap.size, 0, none⟩) k k, rfl, OwC.of_row Car.len (by omega) HR.out hl.out (Nat.le_refl _) hln (fun q x hq hx => hf.out q x hq hx), HB.out⟩

set_option maxHeartbeats 4000000 in
set_option maxRecDepth 100000 in
theorem toInfo_any (x : Inf) (s : Value) (w : World) (hs : RdI w w.heap.size s x.ps) (hlen : x.ps.length ≤ 1048576) :
    Calls Tryd.prog 63 #[.agg #[.int .i64 x.k, .int .i64 x.y, .int .i64 x.b, .int .i64 x.p, .int .i64 x.d, s]] w fun e w' => ∃ s', e = .returned (.agg #[.int .i64 x.k, .int .i64 x.y, .int .i64 x.b, .int .i64 x.p, .int .i64 x.d, s']) ∧
      OwC w' w.heap.size w'.heap.size 2 1 s' x.ps.length (vI x.ps) ∧ Below w.heap.size w w' := by
  obtain ⟨A0, n0, c0, rfl⟩ := RdI.shape' hs
  have HS := Lib.hid hs
  have HN := Lib.hid hlen
  clear hs hlen
  go_enter Tryd.func63, Tryd.ntmps63
  go_wp2_with fail
  refine (toInt64S_any _ x.ps _ (HS.out.up' ((((Below.refl _ _).alloc (Nat.le_refl _) _).alloc (by simp) _).alloc (by simp; omega) _) (by simp; omega)) HN.out).mono ?_
  rintro e w1 ⟨v1, rfl, ho, hb⟩
  obtain ⟨A1, c1, rfl, -⟩ := ho.cells
  have hr : CellsAt w1 (w.heap.size + 1) 0 [.int .i64 0, .int .i64 0, .int .i64 0, .int .i64 0, .int .i64 0, .slice none 0 0] := by
    intro j u hu
    rw [(bcell hb).1 _ _ (by simp)]
    rcases j with _ | _ | _ | _ | _ | _ | j <;> simp at hu <;> subst hu <;> simp [go_sem]
  have hq : CellsAt w1 (w.heap.size + 1 + 1) 0 [.int .i64 x.k, .int .i64 x.y, .int .i64 x.b, .int .i64 x.p, .int .i64 x.d, .slice none 0 0] := by
    intro j u hu
    rw [(bcell hb).1 _ _ (by simp)]
    rcases j with _ | _ | _ | _ | _ | _ | j <;> simp at hu <;> subst hu <;> simp [go_sem]
  obtain ⟨r0, r1, r2, r3, r4, r5⟩ := hr.six
  obtain ⟨q0, q1, q2, q3, q4, q5⟩ := hq.six
  have hc := bcell hb
  have HO := Lib.hid ho
  have HB := Lib.hid hb
  clear ho hb hr hq
  go_wp2
  refine bodyPost_ret (v := .agg #[.int .i64 x.k, .int .i64 x.y, .int .i64 x.b, .int .i64 x.p, .int .i64 x.d, .slice A1 x.ps.length c1]) (by simp [results, Tryd.results63, go_sem, r0, r1, r2, r3, r4, r5, World.cell?_setCell_other]) rfl ⟨_, rfl, ?_, ?_⟩
  · exact ((HO.out.only (((((((((Only.refl w.heap.size (w.heap.size + 3) w1).setCell (by simp; try omega) (by simp; try omega) _).setCell (by simp; try omega) (by simp; try omega) _).setCell (by simp; try omega) (by simp; try omega) _).setCell (by simp; try omega) (by simp; try omega) _).setCell (by simp; try omega) (by simp; try omega) _).setCell (by simp; try omega) (by simp; try omega) _).setCell (by simp; try omega) (by simp; try omega) _)) (.inr (by simp; try omega)) (Nat.le_refl _)).wide (by simp; try omega) (by simp; try omega))
  · exact ((((((Below.refl _ _).alloc (Nat.le_refl _) _).alloc (by simp) _).alloc (by simp; omega) _).trans (HB.out.mono (by simp; omega))).setCell (by simp; try omega) _ |>.setCell (by simp; try omega) _ |>.setCell (by simp; try omega) _ |>.setCell (by simp; try omega) _ |>.setCell (by simp; try omega) _ |>.setCell (by simp; try omega) _ |>.setCell (by simp; try omega) _)

theorem info_inf : (Tryd.prog.info? 78).map (fun i => (i.zero, i.size, i.bytes)) = some (some (.agg #[.int .i64 0, .int .i64 0, .int .i64 0, .int .i64 0, .int .i64 0, .slice none 0 0]), 6, 64) := by kernel_rfl
theorem map6 (f : Nat → Value) (o : Nat) : (List.range 6).map (fun q => f (o + q)) = [f (o + 0), f (o + 1), f (o + 2), f (o + 3), f (o + 4), f (o + 5)] := rfl
set_option maxHeartbeats 4000000 in
set_option maxRecDepth 100000 in
theorem toInfoS_any (v : Value) (l : List Inf) (w : World) (hl : RdIs w w.heap.size v l) (hlen : l.length ≤ 1048576) (hls : ∀ x ∈ l, x.ps.length ≤ 1048576) :
    Calls Tryd.prog 27 #[v] w (GivesN oInf 78 6 w l) := by
  obtain ⟨A, cp, rfl⟩ := hl.shape
  generalize hln : l.length = n at *
  have HL := Lib.hid hl
  have HLN := Lib.hid hln
  have HLS := Lib.hid hls
  clear hl hln hls
  have hmk := fun W => run_make_rowsN (P := Tryd.prog) 31 78 _ 6 64 Tryd.underlying31 info_inf .i64 .i64 n (by omega) (by omega) W
  go_enter Tryd.func27, Tryd.ntmps27
  go_wp2
  clear hmk
  go_loopw [4] (fun i wr => ∃ (k : Nat) (f : Nat → Value) (c : Nat → Nat), k ≤ n ∧ i = .int .i64 k ∧ wr.rowIs w.heap.size 78 (n * 6) f ∧ Wins w.heap.size k c wr.heap.size ∧
    Hid (∀ j x, j < k → l[j]? = some x → oInf wr (c j) (c (j + 1)) ((List.range 6).map fun q => f (j * 6 + q)) x) ∧ Below w.heap.size w wr) (fun i _ => n - (intOf i).toNat)
  case atStart => exact ⟨0, _, fun _ => w.heap.size + 1, Nat.zero_le _, rfl, rowIs_madeN _ _ _ _, ⟨rfl, fun _ _ _ _ => Nat.le_refl _, by simp⟩, fun j x hj => absurd hj (by omega), (Below.refl _ _).alloc (Nat.le_refl _) _⟩
  case round =>
    rename_i wr
    obtain ⟨k, f, c, hk, rfl, hrow, hwin, hf, hb⟩ := hrel
    by_cases hlt : k < n
    · obtain ⟨b, off, x, s, rfl, hbb, hlk, hc, hs⟩ := (RdIs.below HL.out hb).at_ hlt
      have HX := Lib.hid (HLS.out x (List.mem_of_getElem? hlk))
      obtain ⟨A1, n1, c1, rfl⟩ := RdI.shape' hs
      obtain ⟨e0, e1, e2, e3, e4, e5⟩ := hc.six
      have HS := Lib.hid (hs.more hb.size)
      have HB := Lib.hid hb
      have HR := Lib.hid hrow
      have Hl := Lib.hid hlk
      have HW := Lib.hid hwin
      clear hb hrow hlk hs hwin hc
      go_wp2_with fail
      refine (toInfo_any x _ _ HS.out HX.out).mono ?_
      rintro e w1 ⟨s1, rfl, ho, hb1⟩
      have hrow := HR.out.of_block (hb1.block _ HR.out.lt)
      have d0 := hrow.cell (i := k * 6) (by omega)
      have d1 := hrow.cell (i := k * 6 + 1) (by omega)
      have d2 := hrow.cell (i := k * 6 + 2) (by omega)
      have d3 := hrow.cell (i := k * 6 + 3) (by omega)
      have d4 := hrow.cell (i := k * 6 + 4) (by omega)
      have d5 := hrow.cell (i := k * 6 + 5) (by omega)
      have g0 := fun i => hrow.frozen i
      obtain ⟨A2, c2, rfl, -⟩ := ho.cells
      have HO := Lib.hid ho
      have HB1 := Lib.hid hb1
      have HR1 := Lib.hid hrow
      clear ho hb1 hrow
      go_wp2
      have hw0 := HW.out.zero
      have hwt := HW.out.top
      have hwm := HW.out.mono
      have hsz := HB1.out.size
      have hgk := hwm 0 k (by omega) (Nat.le_refl _)
      refine ⟨⟨k + 1, _, _, by omega, by go_num, rowIs_set6 HR1.out _ _ _ _ _ _ _, (by have := HW.out.next hsz; simpa using this), fun j y hj hy => ?_, below_set6 (HB.out.trans (HB1.out.mono HB.out.size)) (Nat.le_refl _) _ _ _ _ _ _⟩, by simp [intOf]; omega⟩
      have hon : ∀ u0 u1 u2 u3 u4 u5, Only w.heap.size (w.heap.size + 1) w1 ((((((w1.setCell ⟨w.heap.size, k * 6, none⟩ u0).setCell ⟨w.heap.size, k * 6 + 1, none⟩ u1).setCell ⟨w.heap.size, k * 6 + 2, none⟩ u2).setCell ⟨w.heap.size, k * 6 + 3, none⟩ u3).setCell ⟨w.heap.size, k * 6 + 4, none⟩ u4).setCell ⟨w.heap.size, k * 6 + 5, none⟩ u5) :=
        fun _ _ _ _ _ _ => ((((((Only.refl _ _ _).setCell (by simp) (by simp) _).setCell (by simp) (by simp) _).setCell (by simp) (by simp) _).setCell (by simp) (by simp) _).setCell (by simp) (by simp) _).setCell (by simp) (by simp) _
      by_cases hjk : j = k
      · subst hjk
        have hxy : x = y := by have := Hl.out; rw [this] at hy; injection hy
        subst hxy
        have hk1 : ¬ j + 1 ≤ j := by omega
        simp only [Nat.le_refl, if_true, hk1, if_false]
        refine ⟨.slice A2 x.ps.length c2, by simp [show List.range 6 = [0, 1, 2, 3, 4, 5] from rfl], ((HO.out.wide (by omega) (Nat.le_refl _)).only (hon _ _ _ _ _ _) (.inr (by omega)) (Nat.le_refl _))⟩
      · have hjk1 : j ≤ k := by omega
        have hjk2 : j + 1 ≤ k := by omega
        simp only [hjk1, hjk2, if_true]
        have hmj := hwm (j + 1) k (by omega) (Nat.le_refl _)
        have h0j := hwm 0 j (by omega) (by omega)
        obtain ⟨s', h1, h2⟩ := hf.out j y (by omega) hy
        refine ⟨s', ?_, (h2.below (HB1.out.mono (by omega))).only (hon _ _ _ _ _ _) (.inr (by omega)) (by omega)⟩
        rw [← h1]
        refine List.map_congr_left fun q hq => ?_
        have hq6 : q < 6 := by simpa using hq
        rw [if_neg (by omega), if_neg (by omega), if_neg (by omega), if_neg (by omega), if_neg (by omega), if_neg (by omega)]
    · have HB := Lib.hid hb
      have HR := Lib.hid hrow
      have HW := Lib.hid hwin
      clear hb hrow hwin
      go_wp2
      go_ret
      obtain rfl : k = n := by omega
      refine ⟨_, rfl, OwN.of_wins HLN.out HW.out HR.out (by unfold maxLen; omega) (fun j x hj hx => hf.out j x hj hx), HB.out⟩

theorem RdLL.up {w w' : World} {B : Nat} {v : Value} {l : List (List Int)} (h : RdLL w B v l) (hb : Below B w w') (hB : B ≤ w'.heap.size) : RdLL w' w'.heap.size v l := RdLL.more (RdLL.below h hb) hB
theorem RdIs.up {w w' : World} {B : Nat} {v : Value} {l : List Inf} (h : RdIs w B v l) (hb : Below B w w') (hB : B ≤ w'.heap.size) : RdIs w' w'.heap.size v l := RdIs.more (RdIs.below h hb) hB
theorem RdCs.up {w w' : World} {B : Nat} {v : Value} {l : List Car} (h : RdCs w B v l) (hb : Below B w w') (hB : B ≤ w'.heap.size) : RdCs w' w'.heap.size v l := RdS.more (RdS.below h hb) hB
/-- A machine of the call's own: its slices in windows one behind the other. -/
def OwM (w : World) (lo hi : Nat) (v : Value) (m : Mc) : Prop :=
  ∃ f b cs ls d, v = .agg #[.int .i64 m.wd, .int .i64 m.rk, f, b, cs, ls, d] ∧ ∃ a0 a1 a2 a3 a4 a5, lo ≤ a0 ∧ a0 ≤ a1 ∧ a1 ≤ a2 ∧ a2 ≤ a3 ∧ a3 ≤ a4 ∧ a4 ≤ a5 ∧ a5 ≤ hi ∧
    OwN oLL 25 1 w a0 a1 f m.fr ∧ OwN oLL 25 1 w a1 a2 b m.bk ∧ OwC w a2 a3 105 2 cs m.cs.length (vS Car.cells m.cs) ∧ OwN oInf 78 6 w a3 a4 ls m.ls ∧ OwC w a4 a5 2 1 d m.dr.length (vI m.dr)
def GivesM (w : World) (m : Mc) (e : Ending) (w' : World) : Prop := ∃ v, e = .returned v ∧ OwM w' w.heap.size w'.heap.size v m ∧ Below w.heap.size w w'
abbrev OwLL := OwN oLL 25 1
abbrev OwIs := OwN oInf 78 6
abbrev OwCs (w : World) (lo hi : Nat) (v : Value) (l : List Car) := OwC w lo hi 105 2 v l.length (vS Car.cells l)
theorem OwLL.below {w w' : World} {lo hi : Nat} {v : Value} {l : List (List Int)} (h : OwLL w lo hi v l) (hb : Below hi w w') : OwLL w' lo hi v l := OwN.keep (fun g _ hg => hb.block g hg) (fun a b us x ha hb' => oLL_keep (fun g _ hg => hb.block g hg) a b us x ha hb') h
theorem OwIs.below {w w' : World} {lo hi : Nat} {v : Value} {l : List Inf} (h : OwIs w lo hi v l) (hb : Below hi w w') : OwIs w' lo hi v l := OwN.keep (fun g _ hg => hb.block g hg) (fun a b us x ha hb' => oInf_keep (fun g _ hg => hb.block g hg) a b us x ha hb') h
theorem OwLL.only {w w' : World} {lo hi a b : Nat} {v : Value} {l : List (List Int)} (h : OwLL w lo hi v l) (hw : Only a b w w') (hd : hi ≤ a ∨ b ≤ lo) (hs : hi ≤ w.heap.size) : OwLL w' lo hi v l :=
  OwN.keep (fun g h1 h2 => hw.block g (by omega) (by omega)) (fun a b us x ha hb' => oLL_keep (fun g h1 h2 => hw.block g (by omega) (by omega)) a b us x ha hb') h
theorem OwIs.only {w w' : World} {lo hi a b : Nat} {v : Value} {l : List Inf} (h : OwIs w lo hi v l) (hw : Only a b w w') (hd : hi ≤ a ∨ b ≤ lo) (hs : hi ≤ w.heap.size) : OwIs w' lo hi v l :=
  OwN.keep (fun g h1 h2 => hw.block g (by omega) (by omega)) (fun a b us x ha hb' => oInf_keep (fun g h1 h2 => hw.block g (by omega) (by omega)) a b us x ha hb') h

set_option maxHeartbeats 8000000 in
set_option maxRecDepth 100000 in
theorem toMachine_any (v : Value) (m : Mc) (w : World) (hl : RdM w w.heap.size v m) (hf : FitM m) :
    Calls Tryd.prog 7 #[v] w (GivesM w m) := by
  obtain ⟨f, b, cs, ls, d, rfl, h1, h2, h3, h4, h5, h6⟩ := hl
  obtain ⟨AF, cF, rfl⟩ := RdN.shape h1
  obtain ⟨AG, cG, rfl⟩ := RdN.shape h2
  obtain ⟨AC, cC, rfl⟩ := RdS.lens h3
  obtain ⟨AI, cI, rfl⟩ := RdN.shape h4
  obtain ⟨AD, cD, rfl⟩ := RdI.len h5
  have HF := Lib.hid h1
  have HG := Lib.hid h2
  have HC := Lib.hid h3
  have HI := Lib.hid h4
  have HD := Lib.hid h5
  have hfit := Lib.hid hf
  clear h1 h2 h3 h4 h5 h6 hf
  have B0 : Below w.heap.size w (((w.alloc (.cells #[.int .i64 m.wd, .int .i64 m.rk, .slice AF m.fr.length cF, .slice AG m.bk.length cG, .slice AC m.cs.length cC, .slice AI m.ls.length cI, .slice AD m.dr.length cD] 27)).alloc (.cells #[.int .i64 0, .int .i64 0, .slice none 0 0, .slice none 0 0, .slice none 0 0, .slice none 0 0, .slice none 0 0] 33)).alloc (.cells #[.int .i64 m.wd, .int .i64 m.rk, .slice none 0 0, .slice none 0 0, .slice none 0 0, .slice none 0 0, .slice none 0 0] 33)) := (((Below.refl _ _).alloc (Nat.le_refl _) _).alloc (by simp) _).alloc (by simp; omega) _
  have hx0 : CellsAt (((w.alloc (.cells #[.int .i64 m.wd, .int .i64 m.rk, .slice AF m.fr.length cF, .slice AG m.bk.length cG, .slice AC m.cs.length cC, .slice AI m.ls.length cI, .slice AD m.dr.length cD] 27)).alloc (.cells #[.int .i64 0, .int .i64 0, .slice none 0 0, .slice none 0 0, .slice none 0 0, .slice none 0 0, .slice none 0 0] 33)).alloc (.cells #[.int .i64 m.wd, .int .i64 m.rk, .slice none 0 0, .slice none 0 0, .slice none 0 0, .slice none 0 0, .slice none 0 0] 33)) w.heap.size 0 [.int .i64 m.wd, .int .i64 m.rk, .slice AF m.fr.length cF, .slice AG m.bk.length cG, .slice AC m.cs.length cC, .slice AI m.ls.length cI, .slice AD m.dr.length cD] := ((CellsAt.of_alloc (us := [.int .i64 m.wd, .int .i64 m.rk, .slice AF m.fr.length cF, .slice AG m.bk.length cG, .slice AC m.cs.length cC, .slice AI m.ls.length cI, .slice AD m.dr.length cD])).alloc (by simp) _).alloc (by simp; omega) _
  have hr0 : CellsAt (((w.alloc (.cells #[.int .i64 m.wd, .int .i64 m.rk, .slice AF m.fr.length cF, .slice AG m.bk.length cG, .slice AC m.cs.length cC, .slice AI m.ls.length cI, .slice AD m.dr.length cD] 27)).alloc (.cells #[.int .i64 0, .int .i64 0, .slice none 0 0, .slice none 0 0, .slice none 0 0, .slice none 0 0, .slice none 0 0] 33)).alloc (.cells #[.int .i64 m.wd, .int .i64 m.rk, .slice none 0 0, .slice none 0 0, .slice none 0 0, .slice none 0 0, .slice none 0 0] 33)) (w.heap.size + 1) 0 [.int .i64 0, .int .i64 0, .slice none 0 0, .slice none 0 0, .slice none 0 0, .slice none 0 0, .slice none 0 0] := by
    have h := (CellsAt.of_alloc (w := (w.alloc (.cells #[.int .i64 m.wd, .int .i64 m.rk, .slice AF m.fr.length cF, .slice AG m.bk.length cG, .slice AC m.cs.length cC, .slice AI m.ls.length cI, .slice AD m.dr.length cD] 27))) (us := [.int .i64 0, .int .i64 0, .slice none 0 0, .slice none 0 0, .slice none 0 0, .slice none 0 0, .slice none 0 0]) (t := 33)).alloc (by simp) (.cells #[.int .i64 m.wd, .int .i64 m.rk, .slice none 0 0, .slice none 0 0, .slice none 0 0, .slice none 0 0, .slice none 0 0] 33)
    simpa using h
  have hq0 : CellsAt (((w.alloc (.cells #[.int .i64 m.wd, .int .i64 m.rk, .slice AF m.fr.length cF, .slice AG m.bk.length cG, .slice AC m.cs.length cC, .slice AI m.ls.length cI, .slice AD m.dr.length cD] 27)).alloc (.cells #[.int .i64 0, .int .i64 0, .slice none 0 0, .slice none 0 0, .slice none 0 0, .slice none 0 0, .slice none 0 0] 33)).alloc (.cells #[.int .i64 m.wd, .int .i64 m.rk, .slice none 0 0, .slice none 0 0, .slice none 0 0, .slice none 0 0, .slice none 0 0] 33)) (w.heap.size + 1 + 1) 0 [.int .i64 m.wd, .int .i64 m.rk, .slice none 0 0, .slice none 0 0, .slice none 0 0, .slice none 0 0, .slice none 0 0] := by
    have h := CellsAt.of_alloc (w := ((w.alloc (.cells #[.int .i64 m.wd, .int .i64 m.rk, .slice AF m.fr.length cF, .slice AG m.bk.length cG, .slice AC m.cs.length cC, .slice AI m.ls.length cI, .slice AD m.dr.length cD] 27)).alloc (.cells #[.int .i64 0, .int .i64 0, .slice none 0 0, .slice none 0 0, .slice none 0 0, .slice none 0 0, .slice none 0 0] 33))) (us := [.int .i64 m.wd, .int .i64 m.rk, .slice none 0 0, .slice none 0 0, .slice none 0 0, .slice none 0 0, .slice none 0 0]) (t := 33)
    simpa using h
  have Z0 : Hid ((((w.alloc (.cells #[.int .i64 m.wd, .int .i64 m.rk, .slice AF m.fr.length cF, .slice AG m.bk.length cG, .slice AC m.cs.length cC, .slice AI m.ls.length cI, .slice AD m.dr.length cD] 27)).alloc (.cells #[.int .i64 0, .int .i64 0, .slice none 0 0, .slice none 0 0, .slice none 0 0, .slice none 0 0, .slice none 0 0] 33)).alloc (.cells #[.int .i64 m.wd, .int .i64 m.rk, .slice none 0 0, .slice none 0 0, .slice none 0 0, .slice none 0 0, .slice none 0 0] 33)).heap.size = w.heap.size + 3) := by unfold Hid; simp
  have B0' := Lib.hid B0
  clear B0
  have hx0' := Lib.hid hx0
  clear hx0
  have hr0' := Lib.hid hr0
  clear hr0
  have hq0' := Lib.hid hq0
  clear hq0
  go_enter Tryd.func7, Tryd.ntmps7
  go_wp2_with fail
  refine (toInt64SS_any _ m.fr _ (RdLL.up HF.out B0'.out B0'.out.size) hfit.out.fr hfit.out.frs).mono ?_
  rintro e w1 ⟨v1, rfl, ho, hb⟩
  obtain ⟨EF, gF, rfl⟩ := OwN.shape ho
  have zz1 := Lib.hid hb.size
  have Z1 : Hid ((w1.setCell ⟨w.heap.size + 1 + 1, 2, none⟩ (.slice EF m.fr.length gF)).heap.size = w1.heap.size) := by unfold Hid; simp
  have hon : Only w.heap.size (w.heap.size + 3) w1 (w1.setCell ⟨w.heap.size + 1 + 1, 2, none⟩ (.slice EF m.fr.length gF)) := (Only.refl _ _ _).setCell (by simp; try omega) (by simp; try omega) _
  have OF := Lib.hid (OwLL.only ho hon (.inr (by have := Z0.out; have := zz1.out; have := Z1.out; omega)) (by have := Z0.out; have := zz1.out; have := Z1.out; omega))
  have B1' := Lib.hid (((B0'.out.trans (hb.mono B0'.out.size))).setCell (p := ⟨w.heap.size + 1 + 1, 2, none⟩) (by simp; try omega) (.slice EF m.fr.length gF))
  have hx1' := Lib.hid ((hx0'.out.below hb (by have := Z0.out; have := zz1.out; have := Z1.out; omega)).far (p := ⟨w.heap.size + 1 + 1, 2, none⟩) (by simp; try omega) (.slice EF m.fr.length gF))
  have hr1' := Lib.hid ((hr0'.out.below hb (by have := Z0.out; have := zz1.out; have := Z1.out; omega)).far (p := ⟨w.heap.size + 1 + 1, 2, none⟩) (by simp; try omega) (.slice EF m.fr.length gF))
  have hqq := hq0'.out.below hb (by have := Z0.out; have := zz1.out; have := Z1.out; omega)
  have hq1' : Hid (CellsAt (w1.setCell ⟨w.heap.size + 1 + 1, 2, none⟩ (.slice EF m.fr.length gF)) (w.heap.size + 1 + 1) 0 [.int .i64 m.wd, .int .i64 m.rk, .slice EF m.fr.length gF, .slice none 0 0, .slice none 0 0, .slice none 0 0, .slice none 0 0]) := by unfold Hid; have h := hqq.set 2 (.slice EF m.fr.length gF); simpa using h
  have hqh := hqq 2 _ rfl
  have hfz1 : ∀ o, w1.frozen? ⟨w.heap.size + 1 + 1, o, none⟩ = false := fun o => by rw [(bcell hb).2 _ _ (by have := Z0.out; have := zz1.out; have := Z1.out; omega)]; simp [go_sem]
  have hfy1 : ∀ o, w1.frozen? ⟨w.heap.size + 1, o, none⟩ = false := fun o => by rw [(bcell hb).2 _ _ (by have := Z0.out; have := zz1.out; have := Z1.out; omega)]; simp [go_sem]
  clear ho hb hqq hon B0' hx0' hr0' hq0'
  simp only [Nat.zero_add] at hqh
  obtain ⟨x0, x1, x2, x3, x4, x5, x6⟩ := hx1'.out.seven
  obtain ⟨y0, y1, y2, y3, y4, y5, y6⟩ := hq1'.out.seven
  go_wp2_with fail
  clear x0 x1 x2 x3 x4 x5 x6 y0 y1 y2 y3 y4 y5 y6
  refine (toInt64SS_any _ m.bk _ (RdLL.up HG.out B1'.out B1'.out.size) hfit.out.bk hfit.out.bks).mono ?_
  rintro e w2 ⟨v2, rfl, ho, hb⟩
  obtain ⟨EG, gG, rfl⟩ := OwN.shape ho
  have zz2 := Lib.hid hb.size
  have Z2 : Hid ((w2.setCell ⟨w.heap.size + 1 + 1, 3, none⟩ (.slice EG m.bk.length gG)).heap.size = w2.heap.size) := by unfold Hid; simp
  have hon : Only w.heap.size (w.heap.size + 3) w2 (w2.setCell ⟨w.heap.size + 1 + 1, 3, none⟩ (.slice EG m.bk.length gG)) := (Only.refl _ _ _).setCell (by simp; try omega) (by simp; try omega) _
  have OF' := Lib.hid (OwLL.only (OwLL.below OF.out (hb.mono (by have := Z0.out; have := zz1.out; have := Z1.out; have := zz2.out; have := Z2.out; omega))) hon (.inr (by have := Z0.out; have := zz1.out; have := Z1.out; have := zz2.out; have := Z2.out; omega)) (by have := Z0.out; have := zz1.out; have := Z1.out; have := zz2.out; have := Z2.out; omega))
  clear OF
  have OF := OF'
  clear OF'
  have OG := Lib.hid (OwLL.only ho hon (.inr (by have := Z0.out; have := zz1.out; have := Z1.out; have := zz2.out; have := Z2.out; omega)) (by have := Z0.out; have := zz1.out; have := Z1.out; have := zz2.out; have := Z2.out; omega))
  have B2' := Lib.hid (((B1'.out.trans (hb.mono B1'.out.size))).setCell (p := ⟨w.heap.size + 1 + 1, 3, none⟩) (by simp; try omega) (.slice EG m.bk.length gG))
  have hx2' := Lib.hid ((hx1'.out.below hb (by have := Z0.out; have := zz1.out; have := Z1.out; have := zz2.out; have := Z2.out; omega)).far (p := ⟨w.heap.size + 1 + 1, 3, none⟩) (by simp; try omega) (.slice EG m.bk.length gG))
  have hr2' := Lib.hid ((hr1'.out.below hb (by have := Z0.out; have := zz1.out; have := Z1.out; have := zz2.out; have := Z2.out; omega)).far (p := ⟨w.heap.size + 1 + 1, 3, none⟩) (by simp; try omega) (.slice EG m.bk.length gG))
  have hqq := hq1'.out.below hb (by have := Z0.out; have := zz1.out; have := Z1.out; have := zz2.out; have := Z2.out; omega)
  have hq2' : Hid (CellsAt (w2.setCell ⟨w.heap.size + 1 + 1, 3, none⟩ (.slice EG m.bk.length gG)) (w.heap.size + 1 + 1) 0 [.int .i64 m.wd, .int .i64 m.rk, .slice EF m.fr.length gF, .slice EG m.bk.length gG, .slice none 0 0, .slice none 0 0, .slice none 0 0]) := by unfold Hid; have h := hqq.set 3 (.slice EG m.bk.length gG); simpa using h
  have hqh := hqq 3 _ rfl
  have hfz2 : ∀ o, w2.frozen? ⟨w.heap.size + 1 + 1, o, none⟩ = false := fun o => by rw [(bcell hb).2 _ _ (by have := Z0.out; have := zz1.out; have := Z1.out; have := zz2.out; have := Z2.out; omega)]; rw [World.frozen?_setCell]; exact hfz1 o
  have hfy2 : ∀ o, w2.frozen? ⟨w.heap.size + 1, o, none⟩ = false := fun o => by rw [(bcell hb).2 _ _ (by have := Z0.out; have := zz1.out; have := Z1.out; have := zz2.out; have := Z2.out; omega)]; rw [World.frozen?_setCell]; exact hfy1 o
  clear ho hb hqq hon B1' hx1' hr1' hq1'
  simp only [Nat.zero_add] at hqh
  obtain ⟨x0, x1, x2, x3, x4, x5, x6⟩ := hx2'.out.seven
  obtain ⟨y0, y1, y2, y3, y4, y5, y6⟩ := hq2'.out.seven
  go_wp2_with fail
  clear x0 x1 x2 x3 x4 x5 x6 y0 y1 y2 y3 y4 y5 y6
  refine (toCarrierS_any _ m.cs _ (RdCs.up HC.out B2'.out B2'.out.size) hfit.out.cs).mono ?_
  rintro e w3 ⟨v3, rfl, ho, hb⟩
  obtain ⟨EC, gC, rfl, -⟩ := ho.cells
  have zz3 := Lib.hid hb.size
  have Z3 : Hid ((w3.setCell ⟨w.heap.size + 1 + 1, 4, none⟩ (.slice EC m.cs.length gC)).heap.size = w3.heap.size) := by unfold Hid; simp
  have hon : Only w.heap.size (w.heap.size + 3) w3 (w3.setCell ⟨w.heap.size + 1 + 1, 4, none⟩ (.slice EC m.cs.length gC)) := (Only.refl _ _ _).setCell (by simp; try omega) (by simp; try omega) _
  have OF' := Lib.hid (OwLL.only (OwLL.below OF.out (hb.mono (by have := Z0.out; have := zz1.out; have := Z1.out; have := zz2.out; have := Z2.out; have := zz3.out; have := Z3.out; omega))) hon (.inr (by have := Z0.out; have := zz1.out; have := Z1.out; have := zz2.out; have := Z2.out; have := zz3.out; have := Z3.out; omega)) (by have := Z0.out; have := zz1.out; have := Z1.out; have := zz2.out; have := Z2.out; have := zz3.out; have := Z3.out; omega))
  clear OF
  have OF := OF'
  clear OF'
  have OG' := Lib.hid (OwLL.only (OwLL.below OG.out (hb.mono (by have := Z0.out; have := zz1.out; have := Z1.out; have := zz2.out; have := Z2.out; have := zz3.out; have := Z3.out; omega))) hon (.inr (by have := Z0.out; have := zz1.out; have := Z1.out; have := zz2.out; have := Z2.out; have := zz3.out; have := Z3.out; omega)) (by have := Z0.out; have := zz1.out; have := Z1.out; have := zz2.out; have := Z2.out; have := zz3.out; have := Z3.out; omega))
  clear OG
  have OG := OG'
  clear OG'
  have OC := Lib.hid (OwC.only ho hon (.inr (by have := Z0.out; have := zz1.out; have := Z1.out; have := zz2.out; have := Z2.out; have := zz3.out; have := Z3.out; omega)) (by have := Z0.out; have := zz1.out; have := Z1.out; have := zz2.out; have := Z2.out; have := zz3.out; have := Z3.out; omega))
  have B3' := Lib.hid (((B2'.out.trans (hb.mono B2'.out.size))).setCell (p := ⟨w.heap.size + 1 + 1, 4, none⟩) (by simp; try omega) (.slice EC m.cs.length gC))
  have hx3' := Lib.hid ((hx2'.out.below hb (by have := Z0.out; have := zz1.out; have := Z1.out; have := zz2.out; have := Z2.out; have := zz3.out; have := Z3.out; omega)).far (p := ⟨w.heap.size + 1 + 1, 4, none⟩) (by simp; try omega) (.slice EC m.cs.length gC))
  have hr3' := Lib.hid ((hr2'.out.below hb (by have := Z0.out; have := zz1.out; have := Z1.out; have := zz2.out; have := Z2.out; have := zz3.out; have := Z3.out; omega)).far (p := ⟨w.heap.size + 1 + 1, 4, none⟩) (by simp; try omega) (.slice EC m.cs.length gC))
  have hqq := hq2'.out.below hb (by have := Z0.out; have := zz1.out; have := Z1.out; have := zz2.out; have := Z2.out; have := zz3.out; have := Z3.out; omega)
  have hq3' : Hid (CellsAt (w3.setCell ⟨w.heap.size + 1 + 1, 4, none⟩ (.slice EC m.cs.length gC)) (w.heap.size + 1 + 1) 0 [.int .i64 m.wd, .int .i64 m.rk, .slice EF m.fr.length gF, .slice EG m.bk.length gG, .slice EC m.cs.length gC, .slice none 0 0, .slice none 0 0]) := by unfold Hid; have h := hqq.set 4 (.slice EC m.cs.length gC); simpa using h
  have hqh := hqq 4 _ rfl
  have hfz3 : ∀ o, w3.frozen? ⟨w.heap.size + 1 + 1, o, none⟩ = false := fun o => by rw [(bcell hb).2 _ _ (by have := Z0.out; have := zz1.out; have := Z1.out; have := zz2.out; have := Z2.out; have := zz3.out; have := Z3.out; omega)]; rw [World.frozen?_setCell]; exact hfz2 o
  have hfy3 : ∀ o, w3.frozen? ⟨w.heap.size + 1, o, none⟩ = false := fun o => by rw [(bcell hb).2 _ _ (by have := Z0.out; have := zz1.out; have := Z1.out; have := zz2.out; have := Z2.out; have := zz3.out; have := Z3.out; omega)]; rw [World.frozen?_setCell]; exact hfy2 o
  clear ho hb hqq hon B2' hx2' hr2' hq2'
  simp only [Nat.zero_add] at hqh
  obtain ⟨x0, x1, x2, x3, x4, x5, x6⟩ := hx3'.out.seven
  obtain ⟨y0, y1, y2, y3, y4, y5, y6⟩ := hq3'.out.seven
  go_wp2_with fail
  clear x0 x1 x2 x3 x4 x5 x6 y0 y1 y2 y3 y4 y5 y6
  refine (toInfoS_any _ m.ls _ (RdIs.up HI.out B3'.out B3'.out.size) hfit.out.ls hfit.out.lss).mono ?_
  rintro e w4 ⟨v4, rfl, ho, hb⟩
  obtain ⟨EI, gI, rfl⟩ := OwN.shape ho
  have zz4 := Lib.hid hb.size
  have Z4 : Hid ((w4.setCell ⟨w.heap.size + 1 + 1, 5, none⟩ (.slice EI m.ls.length gI)).heap.size = w4.heap.size) := by unfold Hid; simp
  have hon : Only w.heap.size (w.heap.size + 3) w4 (w4.setCell ⟨w.heap.size + 1 + 1, 5, none⟩ (.slice EI m.ls.length gI)) := (Only.refl _ _ _).setCell (by simp; try omega) (by simp; try omega) _
  have OF' := Lib.hid (OwLL.only (OwLL.below OF.out (hb.mono (by have := Z0.out; have := zz1.out; have := Z1.out; have := zz2.out; have := Z2.out; have := zz3.out; have := Z3.out; have := zz4.out; have := Z4.out; omega))) hon (.inr (by have := Z0.out; have := zz1.out; have := Z1.out; have := zz2.out; have := Z2.out; have := zz3.out; have := Z3.out; have := zz4.out; have := Z4.out; omega)) (by have := Z0.out; have := zz1.out; have := Z1.out; have := zz2.out; have := Z2.out; have := zz3.out; have := Z3.out; have := zz4.out; have := Z4.out; omega))
  clear OF
  have OF := OF'
  clear OF'
  have OG' := Lib.hid (OwLL.only (OwLL.below OG.out (hb.mono (by have := Z0.out; have := zz1.out; have := Z1.out; have := zz2.out; have := Z2.out; have := zz3.out; have := Z3.out; have := zz4.out; have := Z4.out; omega))) hon (.inr (by have := Z0.out; have := zz1.out; have := Z1.out; have := zz2.out; have := Z2.out; have := zz3.out; have := Z3.out; have := zz4.out; have := Z4.out; omega)) (by have := Z0.out; have := zz1.out; have := Z1.out; have := zz2.out; have := Z2.out; have := zz3.out; have := Z3.out; have := zz4.out; have := Z4.out; omega))
  clear OG
  have OG := OG'
  clear OG'
  have OC' := Lib.hid (OwC.only (OwC.below OC.out (hb.mono (by have := Z0.out; have := zz1.out; have := Z1.out; have := zz2.out; have := Z2.out; have := zz3.out; have := Z3.out; have := zz4.out; have := Z4.out; omega))) hon (.inr (by have := Z0.out; have := zz1.out; have := Z1.out; have := zz2.out; have := Z2.out; have := zz3.out; have := Z3.out; have := zz4.out; have := Z4.out; omega)) (by have := Z0.out; have := zz1.out; have := Z1.out; have := zz2.out; have := Z2.out; have := zz3.out; have := Z3.out; have := zz4.out; have := Z4.out; omega))
  clear OC
  have OC := OC'
  clear OC'
  have OI := Lib.hid (OwIs.only ho hon (.inr (by have := Z0.out; have := zz1.out; have := Z1.out; have := zz2.out; have := Z2.out; have := zz3.out; have := Z3.out; have := zz4.out; have := Z4.out; omega)) (by have := Z0.out; have := zz1.out; have := Z1.out; have := zz2.out; have := Z2.out; have := zz3.out; have := Z3.out; have := zz4.out; have := Z4.out; omega))
  have B4' := Lib.hid (((B3'.out.trans (hb.mono B3'.out.size))).setCell (p := ⟨w.heap.size + 1 + 1, 5, none⟩) (by simp; try omega) (.slice EI m.ls.length gI))
  have hx4' := Lib.hid ((hx3'.out.below hb (by have := Z0.out; have := zz1.out; have := Z1.out; have := zz2.out; have := Z2.out; have := zz3.out; have := Z3.out; have := zz4.out; have := Z4.out; omega)).far (p := ⟨w.heap.size + 1 + 1, 5, none⟩) (by simp; try omega) (.slice EI m.ls.length gI))
  have hr4' := Lib.hid ((hr3'.out.below hb (by have := Z0.out; have := zz1.out; have := Z1.out; have := zz2.out; have := Z2.out; have := zz3.out; have := Z3.out; have := zz4.out; have := Z4.out; omega)).far (p := ⟨w.heap.size + 1 + 1, 5, none⟩) (by simp; try omega) (.slice EI m.ls.length gI))
  have hqq := hq3'.out.below hb (by have := Z0.out; have := zz1.out; have := Z1.out; have := zz2.out; have := Z2.out; have := zz3.out; have := Z3.out; have := zz4.out; have := Z4.out; omega)
  have hq4' : Hid (CellsAt (w4.setCell ⟨w.heap.size + 1 + 1, 5, none⟩ (.slice EI m.ls.length gI)) (w.heap.size + 1 + 1) 0 [.int .i64 m.wd, .int .i64 m.rk, .slice EF m.fr.length gF, .slice EG m.bk.length gG, .slice EC m.cs.length gC, .slice EI m.ls.length gI, .slice none 0 0]) := by unfold Hid; have h := hqq.set 5 (.slice EI m.ls.length gI); simpa using h
  have hqh := hqq 5 _ rfl
  have hfz4 : ∀ o, w4.frozen? ⟨w.heap.size + 1 + 1, o, none⟩ = false := fun o => by rw [(bcell hb).2 _ _ (by have := Z0.out; have := zz1.out; have := Z1.out; have := zz2.out; have := Z2.out; have := zz3.out; have := Z3.out; have := zz4.out; have := Z4.out; omega)]; rw [World.frozen?_setCell]; exact hfz3 o
  have hfy4 : ∀ o, w4.frozen? ⟨w.heap.size + 1, o, none⟩ = false := fun o => by rw [(bcell hb).2 _ _ (by have := Z0.out; have := zz1.out; have := Z1.out; have := zz2.out; have := Z2.out; have := zz3.out; have := Z3.out; have := zz4.out; have := Z4.out; omega)]; rw [World.frozen?_setCell]; exact hfy3 o
  clear ho hb hqq hon B3' hx3' hr3' hq3'
  simp only [Nat.zero_add] at hqh
  obtain ⟨x0, x1, x2, x3, x4, x5, x6⟩ := hx4'.out.seven
  obtain ⟨y0, y1, y2, y3, y4, y5, y6⟩ := hq4'.out.seven
  go_wp2_with fail
  clear x0 x1 x2 x3 x4 x5 x6 y0 y1 y2 y3 y4 y5 y6
  refine (toInt64S_any _ m.dr _ (RdI.up' HD.out B4'.out B4'.out.size) hfit.out.dr).mono ?_
  rintro e w5 ⟨v5, rfl, ho, hb⟩
  obtain ⟨ED, gD, rfl, -⟩ := ho.cells
  have zz5 := Lib.hid hb.size
  have Z5 : Hid ((w5.setCell ⟨w.heap.size + 1 + 1, 6, none⟩ (.slice ED m.dr.length gD)).heap.size = w5.heap.size) := by unfold Hid; simp
  have hon : Only w.heap.size (w.heap.size + 3) w5 (w5.setCell ⟨w.heap.size + 1 + 1, 6, none⟩ (.slice ED m.dr.length gD)) := (Only.refl _ _ _).setCell (by simp; try omega) (by simp; try omega) _
  have OF' := Lib.hid (OwLL.only (OwLL.below OF.out (hb.mono (by have := Z0.out; have := zz1.out; have := Z1.out; have := zz2.out; have := Z2.out; have := zz3.out; have := Z3.out; have := zz4.out; have := Z4.out; have := zz5.out; have := Z5.out; omega))) hon (.inr (by have := Z0.out; have := zz1.out; have := Z1.out; have := zz2.out; have := Z2.out; have := zz3.out; have := Z3.out; have := zz4.out; have := Z4.out; have := zz5.out; have := Z5.out; omega)) (by have := Z0.out; have := zz1.out; have := Z1.out; have := zz2.out; have := Z2.out; have := zz3.out; have := Z3.out; have := zz4.out; have := Z4.out; have := zz5.out; have := Z5.out; omega))
  clear OF
  have OF := OF'
  clear OF'
  have OG' := Lib.hid (OwLL.only (OwLL.below OG.out (hb.mono (by have := Z0.out; have := zz1.out; have := Z1.out; have := zz2.out; have := Z2.out; have := zz3.out; have := Z3.out; have := zz4.out; have := Z4.out; have := zz5.out; have := Z5.out; omega))) hon (.inr (by have := Z0.out; have := zz1.out; have := Z1.out; have := zz2.out; have := Z2.out; have := zz3.out; have := Z3.out; have := zz4.out; have := Z4.out; have := zz5.out; have := Z5.out; omega)) (by have := Z0.out; have := zz1.out; have := Z1.out; have := zz2.out; have := Z2.out; have := zz3.out; have := Z3.out; have := zz4.out; have := Z4.out; have := zz5.out; have := Z5.out; omega))
  clear OG
  have OG := OG'
  clear OG'
  have OC' := Lib.hid (OwC.only (OwC.below OC.out (hb.mono (by have := Z0.out; have := zz1.out; have := Z1.out; have := zz2.out; have := Z2.out; have := zz3.out; have := Z3.out; have := zz4.out; have := Z4.out; have := zz5.out; have := Z5.out; omega))) hon (.inr (by have := Z0.out; have := zz1.out; have := Z1.out; have := zz2.out; have := Z2.out; have := zz3.out; have := Z3.out; have := zz4.out; have := Z4.out; have := zz5.out; have := Z5.out; omega)) (by have := Z0.out; have := zz1.out; have := Z1.out; have := zz2.out; have := Z2.out; have := zz3.out; have := Z3.out; have := zz4.out; have := Z4.out; have := zz5.out; have := Z5.out; omega))
  clear OC
  have OC := OC'
  clear OC'
  have OI' := Lib.hid (OwIs.only (OwIs.below OI.out (hb.mono (by have := Z0.out; have := zz1.out; have := Z1.out; have := zz2.out; have := Z2.out; have := zz3.out; have := Z3.out; have := zz4.out; have := Z4.out; have := zz5.out; have := Z5.out; omega))) hon (.inr (by have := Z0.out; have := zz1.out; have := Z1.out; have := zz2.out; have := Z2.out; have := zz3.out; have := Z3.out; have := zz4.out; have := Z4.out; have := zz5.out; have := Z5.out; omega)) (by have := Z0.out; have := zz1.out; have := Z1.out; have := zz2.out; have := Z2.out; have := zz3.out; have := Z3.out; have := zz4.out; have := Z4.out; have := zz5.out; have := Z5.out; omega))
  clear OI
  have OI := OI'
  clear OI'
  have OD := Lib.hid (OwC.only ho hon (.inr (by have := Z0.out; have := zz1.out; have := Z1.out; have := zz2.out; have := Z2.out; have := zz3.out; have := Z3.out; have := zz4.out; have := Z4.out; have := zz5.out; have := Z5.out; omega)) (by have := Z0.out; have := zz1.out; have := Z1.out; have := zz2.out; have := Z2.out; have := zz3.out; have := Z3.out; have := zz4.out; have := Z4.out; have := zz5.out; have := Z5.out; omega))
  have B5' := Lib.hid (((B4'.out.trans (hb.mono B4'.out.size))).setCell (p := ⟨w.heap.size + 1 + 1, 6, none⟩) (by simp; try omega) (.slice ED m.dr.length gD))
  have hx5' := Lib.hid ((hx4'.out.below hb (by have := Z0.out; have := zz1.out; have := Z1.out; have := zz2.out; have := Z2.out; have := zz3.out; have := Z3.out; have := zz4.out; have := Z4.out; have := zz5.out; have := Z5.out; omega)).far (p := ⟨w.heap.size + 1 + 1, 6, none⟩) (by simp; try omega) (.slice ED m.dr.length gD))
  have hr5' := Lib.hid ((hr4'.out.below hb (by have := Z0.out; have := zz1.out; have := Z1.out; have := zz2.out; have := Z2.out; have := zz3.out; have := Z3.out; have := zz4.out; have := Z4.out; have := zz5.out; have := Z5.out; omega)).far (p := ⟨w.heap.size + 1 + 1, 6, none⟩) (by simp; try omega) (.slice ED m.dr.length gD))
  have hqq := hq4'.out.below hb (by have := Z0.out; have := zz1.out; have := Z1.out; have := zz2.out; have := Z2.out; have := zz3.out; have := Z3.out; have := zz4.out; have := Z4.out; have := zz5.out; have := Z5.out; omega)
  have hq5' : Hid (CellsAt (w5.setCell ⟨w.heap.size + 1 + 1, 6, none⟩ (.slice ED m.dr.length gD)) (w.heap.size + 1 + 1) 0 [.int .i64 m.wd, .int .i64 m.rk, .slice EF m.fr.length gF, .slice EG m.bk.length gG, .slice EC m.cs.length gC, .slice EI m.ls.length gI, .slice ED m.dr.length gD]) := by unfold Hid; have h := hqq.set 6 (.slice ED m.dr.length gD); simpa using h
  have hqh := hqq 6 _ rfl
  have hfz5 : ∀ o, w5.frozen? ⟨w.heap.size + 1 + 1, o, none⟩ = false := fun o => by rw [(bcell hb).2 _ _ (by have := Z0.out; have := zz1.out; have := Z1.out; have := zz2.out; have := Z2.out; have := zz3.out; have := Z3.out; have := zz4.out; have := Z4.out; have := zz5.out; have := Z5.out; omega)]; rw [World.frozen?_setCell]; exact hfz4 o
  have hfy5 : ∀ o, w5.frozen? ⟨w.heap.size + 1, o, none⟩ = false := fun o => by rw [(bcell hb).2 _ _ (by have := Z0.out; have := zz1.out; have := Z1.out; have := zz2.out; have := Z2.out; have := zz3.out; have := Z3.out; have := zz4.out; have := Z4.out; have := zz5.out; have := Z5.out; omega)]; rw [World.frozen?_setCell]; exact hfy4 o
  clear ho hb hqq hon B4' hx4' hr4' hq4'
  simp only [Nat.zero_add] at hqh
  obtain ⟨y0, y1, y2, y3, y4, y5, y6⟩ := hq5'.out.seven
  obtain ⟨r0, r1, r2, r3, r4, r5, r6⟩ := hr5'.out.seven
  go_wp2
  refine bodyPost_ret (v := .agg #[.int .i64 m.wd, .int .i64 m.rk, .slice EF m.fr.length gF, .slice EG m.bk.length gG, .slice EC m.cs.length gC, .slice EI m.ls.length gI, .slice ED m.dr.length gD]) (by simp [results, Tryd.results7, go_sem, r0, r1, r2, r3, r4, r5, r6, World.cell?_setCell_other]) rfl ⟨_, rfl, ⟨_, _, _, _, _, rfl, ?_⟩, ?_⟩
  · have hon := fun u0 u1 u2 u3 u4 u5 u6 => (((((((((Only.refl w.heap.size (w.heap.size + 3) (w5.setCell ⟨w.heap.size + 1 + 1, 6, none⟩ (.slice ED m.dr.length gD))).setCell (by simp; try omega) (by simp; try omega) _).setCell (by simp; try omega) (by simp; try omega) _).setCell (by simp; try omega) (by simp; try omega) _).setCell (by simp; try omega) (by simp; try omega) _).setCell (by simp; try omega) (by simp; try omega) _).setCell (by simp; try omega) (by simp; try omega) _).setCell (by simp; try omega) (by simp; try omega) _) : Only w.heap.size (w.heap.size + 3) (w5.setCell ⟨w.heap.size + 1 + 1, 6, none⟩ (.slice ED m.dr.length gD)) ((((((((w5.setCell ⟨w.heap.size + 1 + 1, 6, none⟩ (.slice ED m.dr.length gD)).setCell ⟨w.heap.size + 1, 0, none⟩ u0).setCell ⟨w.heap.size + 1, 1, none⟩ u1).setCell ⟨w.heap.size + 1, 2, none⟩ u2).setCell ⟨w.heap.size + 1, 3, none⟩ u3).setCell ⟨w.heap.size + 1, 4, none⟩ u4).setCell ⟨w.heap.size + 1, 5, none⟩ u5).setCell ⟨w.heap.size + 1, 6, none⟩ u6))
    have hon := hon (.int .i64 m.wd) (.int .i64 m.rk) (.slice EF m.fr.length gF) (.slice EG m.bk.length gG) (.slice EC m.cs.length gC) (.slice EI m.ls.length gI) (.slice ED m.dr.length gD)
    have := Z0.out
    have := zz1.out
    have := Z1.out
    have := zz2.out
    have := Z2.out
    have := zz3.out
    have := Z3.out
    have := zz4.out
    have := Z4.out
    have := zz5.out
    have := Z5.out
    have e1 := OwLL.only OF.out hon (.inr (by omega)) (by omega)
    have e2 := OwLL.only OG.out hon (.inr (by omega)) (by omega)
    have e3 := OwC.only OC.out hon (.inr (by omega)) (by omega)
    have e4 := OwIs.only OI.out hon (.inr (by omega)) (by omega)
    have e5 := OwC.only OD.out hon (.inr (by omega)) (by omega)
    refine ⟨w.heap.size, w1.heap.size, w2.heap.size, w3.heap.size, w4.heap.size, w5.heap.size, Nat.le_refl _, by omega, by omega, by omega, by omega, by omega, by simp; try omega, OwN.wide e1 (by omega) (Nat.le_refl _), OwN.wide e2 (by omega) (Nat.le_refl _), e3.wide (by omega) (Nat.le_refl _), OwN.wide e4 (by omega) (Nat.le_refl _), e5.wide (by omega) (Nat.le_refl _)⟩
  · exact (((((((B5'.out.setCell (by simp; try omega) _).setCell (by simp; try omega) _).setCell (by simp; try omega) _).setCell (by simp; try omega) _).setCell (by simp; try omega) _).setCell (by simp; try omega) _).setCell (by simp; try omega) _)

end Go.Proofs.YtccdnmafakaleaaDoor
