/-
  Texts joined: Clone, Delete, OpenBr, Blk, BlkI.
-/
import Derived.Test.YtgkapjjolhnliaaGreatDoorAppend
import Derived.Test.YtgkapjjolhnliaaGreatDoorStitches
import Derived.Test.YtgkapjjolhnliaaGreatDoorNest
import Derived.Test.YtgkapjjolhnliaaGreatDoorBraidE
import Derived.Test.YtgkapjjolhnliaaGreatDoorBraid
import Derived.Test.YtgkapjjolhnliaaGreatDoorSame
import Derived.Test.YtgkapjjolhnliaaGreatDoorNst
/-
  slices.Clone at events.
-/
namespace Go.Proofs.YtgkapjjolhnliaaGreatDoor
set_option linter.unusedVariables false
set_option linter.unusedSimpArgs false
open Go.RowKit

theorem vE_one (l : List Ev) : ∀ u ∈ vE l, u.oneCell' = true := by
  intro u hu
  obtain ⟨x, _, hx⟩ := List.mem_flatMap.1 hu
  exact cells_one x u hx

set_option maxHeartbeats 2000000 in
theorem cloneE_any (v : Value) (l : List Ev) (w : World) (hl : RdE w w.heap.size v l) (hlen : l.length ≤ 1048576) :
    Calls Tryz.prog 22 #[v] w (GivesRow w 26 6 l.length (vE l)) := by
  obtain ⟨i0, hi, hz0, hz1, hz2⟩ := info_parts info_ev
  have hl0 := hl
  obtain ⟨A, n, c, rfl, hln, hln', gl⟩ := hl
  obtain ⟨hr, hn⟩ := hl0.reads Ev.len (by omega)
  rw [hn] at hlen
  rcases A with _ | ad
  · have h0 : n = 0 := by
      rcases Nat.eq_zero_or_pos n with h | h
      · exact h
      · obtain ⟨b, off, x, hA, _⟩ := gl 0 h
        cases hA
    subst h0
    have hnil : l = [] := List.eq_nil_of_length_eq_zero hn
    subst hnil
    have hq := fun W => Lib.run_eql_slice_nil (P := Tryz.prog) W 23 26 none 0 c 0 0 Tryz.underlying23
    clear gl hl0 hr hln'
    go_enter Tryz.func22, Tryz.ntmps22
    go_wp2
    go_ret
    exact ⟨_, rfl, World.ownsRow_nil _ _ _ _, Below.refl _ _⟩
  · have hq := fun W => Lib.run_eql_slice_nil (P := Tryz.prog) W 23 26 (some ad) n c 0 0 Tryz.underlying23
    have HR := Lib.hid hr
    have HN := Lib.hid hn
    clear gl hl0 hr hln' hn
    go_enter Tryz.func22, Tryz.ntmps22
    go_wp2_with (at_builtin; refine wpList_append_any _ rfl (.tmp 5) (.tmp 6) _ rfl w.heap.size 26 i0 _ 6 48 Tryz.underlying23 hi hz0 hz1 hz2 rfl (by decide) _ 0 [] rfl (World.ownsRow_lit _ _ _ (Nat.le_refl _) (by unfold maxLen; omega) rfl) w.heap.size (some ad) n c (vE l) rfl (HR.out.alloc (Nat.le_refl _) _) (vE_one l) (by unfold maxLen; omega) (by omega) (by simp) ?_; intro v1 w1 hown hg hat)
    go_ret
    refine ⟨v1, rfl, by rw [HN.out]; simpa using hown, ((Below.refl _ _).alloc (Nat.le_refl _) _).grown hg (by simp) (fun k hk => ?_)⟩
    have hk' : some w.heap.size = some k := hk
    injection hk' with hk'
    omega

end Go.Proofs.YtgkapjjolhnliaaGreatDoor

/-
  slices.DeleteFunc at events; the program's StitchesOf.
-/
namespace Go.Proofs.YtgkapjjolhnliaaGreatDoor
set_option linter.unusedVariables false
set_option linter.unusedSimpArgs false
open Go.RowKit

theorem isCross_any (x : Ev) (w : World) : Calls Tryz.prog 23 #[x.v] w fun e w' => e = .returned (.bool (!isSt x)) ∧ Below w.heap.size w w' := by
  generalize hs : isSt x = s
  have HS := Lib.hid hs
  have h1 : (x.k == 1) = !s := by rw [← hs]; simp [isSt, bne]
  clear hs
  cases s
  all_goals
    simp only [Bool.not_false, Bool.not_true] at h1 ⊢
    go_enter Tryz.func23, Tryz.ntmps23
    go_wp2
    go_ret
    exact ⟨ret_bool (by simp_all), (Below.refl _ _).alloc (Nat.le_refl _) _⟩

/- slices.IndexFunc over events at a closure: stitches name · slices.IndexFunc[[]impl.Event,impl.Event] IndexFunc's instance · impl.StitchesOf$1 the closure · (fun x => !isSt x) its predicate · isCross_any its contract (x W) · #[] what it captured -/
set_option maxHeartbeats 1000000 in
theorem stitches_index (v : Value) (l : List Ev) (w : World) (hl : RdE w w.heap.size v l) :
    Calls Tryz.prog 44 #[v, .func (.func 23) #[] #[]] w fun e w' => e = .returned (.int .i64 (idxOf (fun x => !isSt x) l)) ∧ Below w.heap.size w w' := by
  obtain ⟨A, n, c, rfl, hln, hl, gl⟩ := hl
  go_enter Tryz.func44, Tryz.ntmps44
  go_wp2
  go_loopw [5, 8] (fun _ i wr => ∃ k : Nat, k ≤ n ∧ i = .int .i64 k ∧ Hid (idxOf (fun x => !isSt x) l = idxFrom (fun x => !isSt x) k (l.drop k)) ∧ Below w.heap.size w wr) (fun _ i _ => n - (intOf i).toNat)
  case atStart => exact ⟨0, Nat.zero_le _, rfl, rfl, Below.refl _ _⟩
  case round =>
    rename_i wr
    obtain ⟨k, hk, rfl, hd, hb⟩ := hrel
    by_cases hlt : k < n
    · obtain ⟨b, off, x, rfl, hbb, hlk, hc⟩ := gl k hlt
      obtain ⟨c0, c1, c2, c3, c4, c5⟩ := (hc.below hb hbb).six
      have HB := Lib.hid hb
      have Hl := Lib.hid hlk
      clear hb hlk gl hc
      rcases hp : (fun x => !isSt x) x
      · have HP := Lib.hid hp
        clear hp
        go_wp2_with (go_at_call 23; refine (isCross_any x _).mono ?_; rintro e w1 ⟨rfl, hb1⟩; rw [HP.out])
        have HB1 := HB.out.trans (hb1.mono HB.out.size)
        exact ⟨⟨k + 1, by omega, by go_num, by unfold Hid; rw [hd.out, drop_of_get Hl.out]; simp [idxFrom, HP.out], HB1⟩, by simp [intOf]; omega⟩
      · have HP := Lib.hid hp
        clear hp
        go_wp2_with (go_at_call 23; refine (isCross_any x _).mono ?_; rintro e w1 ⟨rfl, hb1⟩; rw [HP.out])
        go_ret
        exact ⟨ret_int (by rw [hd.out, drop_of_get Hl.out]; simp [idxFrom, HP.out]), HB.out.trans (hb1.mono HB.out.size)⟩
    · have HB := Lib.hid hb
      clear hb gl
      go_wp2
      go_ret
      exact ⟨ret_int (by rw [hd.out, List.drop_of_length_le (by have := hl.out; omega)]; rfl), HB.out⟩

theorem idx_no {α : Type} {p : α → Bool} {l : List α} (h : l.any p = false) : idxOf p l = -1 := by
  have : ∀ k, idxFrom p k l = -1 := by
    induction l with
    | nil => intro k; rfl
    | cons x xs ih =>
      intro k
      simp at h
      simp [idxFrom, h.1]
      exact ih (by simpa using h.2) (k + 1)
  exact this 0
theorem idx_yes {α : Type} {p : α → Bool} {l : List α} (h : l.any p = true) : ∃ i x, idxOf p l = (i : Nat) ∧ l[i]? = some x ∧ p x = true ∧ (l.take i).all (fun y => !p y) = true := by
  have : ∀ k, ∃ i x, idxFrom p k l = ((k + i : Nat) : Int) ∧ l[i]? = some x ∧ p x = true ∧ (l.take i).all (fun y => !p y) = true := by
    induction l with
    | nil => simp at h
    | cons y ys ih =>
      intro k
      by_cases hy : p y = true
      · exact ⟨0, y, by simp [idxFrom, hy], rfl, hy, rfl⟩
      · have hy' : p y = false := by simpa using hy
        obtain ⟨i, x, h1, h2, h3, h4⟩ := ih (by simpa [hy'] using h) (k + 1)
        exact ⟨i + 1, x, by simp [idxFrom, hy', h1]; omega, by simpa using h2, h3, by simp [hy']; simpa using h4⟩
  obtain ⟨i, x, h1, h2⟩ := this 0
  exact ⟨i, x, by simpa [idxOf] using h1, h2⟩

/-- clear on the rest of a row. -/
theorem run_clear_row {P : Program} (w : World) (t e ty : TypeId) (z : Value) (ht : P.underlying t = some (.slice e)) (hv : ∀ w, (zeroValue e).run P w = .ok z w) (hz : ∀ u ∈ z.cells.toList, u.oneCell' = true) (hzs : 0 < z.cells.size)
    (g o n c : Nat) (cur : Array Value) (E : TypeId) (hg : w.heap[g]? = some (.cells cur E (0, 0))) (hs : o + n * z.cells.size ≤ cur.size) (hn : 0 < n) :
    ∃ vs, vs.length = n * z.cells.size ∧ (Builtin.clear_ #[t] ty #[.slice (some ⟨g, o, none⟩) n c]).run P w = .ok (.tuple #[]) (w.setRow g (cur.toList.take o ++ vs ++ cur.toList.drop (o + n * z.cells.size)).toArray) := by
  refine ⟨(Builtin.zeroCells z.cells n).toList, by simp [Builtin.zeroCells], ?_⟩
  have hst := run_storeCells_at (P := P) g o E (Builtin.zeroCells z.cells n).toList 0 cur w hg (by simpa [Builtin.zeroCells] using hs) (by
    intro v hv'
    simp [Builtin.zeroCells] at hv'
    obtain ⟨a, ha, rfl⟩ := hv'
    have hlt : a % z.cells.size < z.cells.size := Nat.mod_lt _ hzs
    refine hz _ ?_
    rw [getElem!_pos z.cells (a % z.cells.size) hlt]
    simp)
  have hlen : (Builtin.zeroCells z.cells n).toList.length = n * z.cells.size := by simp [Builtin.zeroCells]
  rw [hlen] at hst
  simp only [Nat.add_zero] at hst
  obtain ⟨m, rfl⟩ : ∃ m, n = m + 1 := ⟨n - 1, by omega⟩
  simp [Builtin.clear_, run_underlying ht, hv, hst]

theorem take_of_st {l : List Ev} {i : Nat} {x : Ev} (hx : l[i]? = some x) (hp : (!isSt x) = true) (ha : (l.take i).all (fun y => !(!isSt y)) = true) : stOf l = l.take i ++ stOf (l.drop (i + 1)) := by
  have h1 : l = l.take i ++ (x :: l.drop (i + 1)) := by rw [← drop_of_get hx, List.take_append_drop]
  have h2 : stOf (l.take i) = l.take i := by
    unfold stOf
    rw [List.filter_eq_self]
    intro a hm
    have := List.all_eq_true.1 ha a hm
    simpa using this
  have h3 : isSt x = false := by simpa using hp
  conv => lhs; rw [h1]
  unfold stOf at *
  rw [List.filter_append, h2, List.filter_cons, h3]
  simp

theorem box_block {wr w2 : World} {o : Obj} {g : Nat} (h : Below (wr.alloc o).heap.size (wr.alloc o) w2) (hg : g < wr.heap.size) : w2.heap[g]? = wr.heap[g]? :=
  (h.block g (by simp; omega)).trans (Below.heap_alloc wr o g hg)
theorem box_below {B : Nat} {a wr w2 : World} {o : Obj} (hb : Below B a wr) (hB : B ≤ wr.heap.size) (h : Below (wr.alloc o).heap.size (wr.alloc o) w2) : Below B a w2 :=
  (hb.alloc hB o).trans (h.mono (by simp; omega))

theorem heap_setRow {w : World} {g : Nat} {cur : Array Value} {E : TypeId} (h : w.heap[g]? = some (.cells cur E (0, 0))) (cs : Array Value) : (w.setRow g cs).heap[g]? = some (.cells cs E (0, 0)) := by
  simp [World.setRow, Array.getElem?_modify, h]
theorem below_setRow' {B g : Nat} {w0 w : World} (hb : Below B w0 w) (hBg : B ≤ g) (cs : Array Value) : Below B w0 (w.setRow g cs) :=
  hb.trans ⟨rfl, rfl, rfl, by simp [World.setRow], fun k hk => by
    simp only [World.setRow, Array.getElem?_modify]
    rw [if_neg (by omega)]⟩

theorem getD_row {cur : Array Value} {i : Nat} (h : i < cur.size) : cur[i]? = some (cur.getD i undef) := by simp [h]

/-- What a function gives that returns a slice of its caller's own, from block base on. -/
def GivesIn (w : World) (base E sz n : Nat) (xs : List Value) (e : Ending) (w' : World) : Prop := ∃ v, e = .returned v ∧ OwC w' base w'.heap.size E sz v n xs ∧ Below base w w'

set_option maxHeartbeats 8000000 in
set_option maxRecDepth 100000 in
theorem deleteE_any (v : Value) (l : List Ev) (w : World) (base : Nat) (hown : w.ownsRow base 26 6 v l.length (vE l)) (hbase : base ≤ w.heap.size) (hlen : l.length ≤ 1048576) :
    Calls Tryz.prog 21 #[v, .func (.func 23) #[] #[]] w (GivesIn w base 26 6 (stOf l).length (vE (stOf l))) := by
  have HR := Lib.hid (RdS.of_own Ev.len (OwC.of_own hown))
  rcases hany : l.any (fun x => !isSt x)
  · have hx := Lib.hid (idx_no hany)
    have hst : Hid (stOf l = l) := by
      unfold Hid stOf
      rw [List.filter_eq_self]
      intro a hm
      rw [List.any_eq_false] at hany
      have := hany a hm
      simpa using this
    have HO := Lib.hid hown
    clear hany hown
    obtain ⟨A, n, c, rfl, _⟩ := HR.out
    go_enter Tryz.func21, Tryz.ntmps21
    go_wp2_with fail
    refine (stitches_index _ l _ HR.out).mono ?_
    rintro e w1 ⟨rfl, hb1⟩
    rw [hx.out]
    have HB1 := Lib.hid hb1
    clear hb1
    go_wp2
    go_ret
    refine ⟨_, rfl, ?_, HB1.out.mono hbase⟩
    rw [hst.out]
    exact ((OwC.of_own HO.out).below HB1.out).wide (Nat.le_refl _) HB1.out.size
  · obtain ⟨i, x, hi, hix, hpx, hall⟩ := idx_yes hany
    have hil : i < l.length := (List.getElem?_eq_some_iff.1 hix).1
    have HST := Lib.hid (take_of_st hix hpx hall)
    have HI := Lib.hid hi
    have hgt : ∀ t y, (l.take i)[t]? = some y → l[t]? = some y := fun t y h => by
      rw [List.getElem?_take] at h
      split at h
      · exact h
      · cases h
    have hlt : (l.take i).length = i := by rw [List.length_take]; omega
    rcases hown.2 with ⟨rfl, h0⟩ | ⟨g, cap, cur, rfl, hg, hh, hnc, hcap, hsz, hx⟩
    · exfalso; omega
    obtain ⟨n, hn⟩ : ∃ n, l.length = n := ⟨_, rfl⟩
    rw [hn] at hlen hil hnc hx ⊢
    have hcells : ∀ t y, l[t]? = some y → ∀ q, q < 6 → some (cur.getD (t * 6 + q) undef) = y.cells[q]? := by
      intro t y hy q hq
      have ht : t < n := by rw [← hn]; exact (List.getElem?_eq_some_iff.1 hy).1
      rw [← vS_get Ev.len l t y hy q hq]
      have : (vS Ev.cells l)[t * 6 + q]? = cur[t * 6 + q]? := by
        rw [show vS Ev.cells l = cur.toList.take (n * 6) from hx.symm, List.getElem?_take, if_pos (by omega), Array.getElem?_toList]
      rw [this]
      have hlt' : t * 6 + q < cur.size := by omega
      simp [hlt']
    have hrow0 : w.rowIs g 26 (cap * 6) (fun i => cur.getD i undef) := ⟨cur, hh, hsz, fun i hi => getD_row (by omega)⟩
    have HC := Lib.hid hcells
    have HROW := Lib.hid hrow0
    have HN := Lib.hid hn
    have HG := Lib.hid hgt
    have HL := Lib.hid hlt
    have hcap' : Hid (cap ≤ maxLen) := hcap
    have hi1 : ((i : Int) == -1) = false := by
      rw [beq_eq_false_iff_ne]
      omega
    clear hcells hrow0 hn hgt hlt hx hh hsz hown hany hi hix hpx hall hcap
    go_enter Tryz.func21, Tryz.ntmps21
    go_wp2_with fail
    rw [HN.out] at HR
    refine (stitches_index _ l _ HR.out).mono ?_
    rintro e w1 ⟨rfl, hb1⟩
    rw [HI.out]
    have HROW1 := Lib.hid (HROW.out.of_block (hb1.block _ HROW.out.lt))
    have HB1 := Lib.hid (hb1.mono hbase)
    clear hb1
    go_wp2
    go_loopw [5, 6] (fun si sj wr => ∃ (j : Nat) (acc : List Ev) (f : Nat → Value), si = .int .i64 acc.length ∧ sj = .int .i64 j ∧ acc.length < j ∧ j ≤ n ∧ wr.rowIs g 26 (cap * 6) f ∧ Hid (stOf l = acc ++ stOf (l.drop j)) ∧
      Hid (∀ t y, t < acc.length → acc[t]? = some y → ∀ q, q < 6 → some (f (t * 6 + q)) = y.cells[q]?) ∧ Hid (∀ t y, j ≤ t → l[t]? = some y → ∀ q, q < 6 → some (f (t * 6 + q)) = y.cells[q]?) ∧ Below base w wr) (fun _ sj _ => n - (intOf sj).toNat)
    case atStart =>
      exact ⟨i + 1, l.take i, _, by rw [HL.out], by go_num, by rw [HL.out]; omega, by omega, HROW1.out, HST.out, fun t y _ hy => HC.out t y (HG.out t y hy), fun t y _ hy => HC.out t y hy, HB1.out⟩
    case round =>
      rename_i wr
      obtain ⟨j, acc, f, rfl, rfl, haj, hjn, hrow, hd, hfa, hfl, hb⟩ := hrel
      by_cases hlt : j < n
      · obtain ⟨y, hy⟩ : ∃ y, l[j]? = some y := ⟨_, List.getElem?_eq_getElem (by rw [HN.out]; exact hlt)⟩
        have hcj : (j + 1) * 6 ≤ cap * 6 := Nat.mul_le_mul_right 6 (by omega)
        have hf := hfl.out j y (Nat.le_refl _) hy
        have hcell : ∀ q u, q < 6 → y.cells[q]? = some u → wr.cell? ⟨g, j * 6 + q, none⟩ = some u := fun q u hq hu => by
          rw [hrow.cell (by omega), hf q hq, hu]
        have c0 : wr.cell? ⟨g, j * 6, none⟩ = some (.int .i64 y.k) := hcell 0 _ (by omega) rfl
        have c1 := hcell 1 _ (by omega) rfl
        have c2 := hcell 2 _ (by omega) rfl
        have c3 := hcell 3 _ (by omega) rfl
        have c4 := hcell 4 _ (by omega) rfl
        have c5 := hcell 5 _ (by omega) rfl
        have HRW := Lib.hid hrow
        have HB := Lib.hid hb
        have Hy := Lib.hid hy
        have hgl := Lib.hid hrow.lt
        clear hcell hf hrow hb hy
        rcases hs : isSt y
        · have HS := Lib.hid hs
          clear hs
          have HD := Lib.hid (st_drop hd.out Hy.out HS.out)
          go_wp2_with (go_at_call 23; refine (isCross_any y _).mono ?_; rintro e w2 ⟨rfl, hb2⟩; rw [HS.out])
          refine ⟨⟨j + 1, acc, f, rfl, by go_num, by omega, by omega, HRW.out.of_block ?_, HD.out, hfa.out, fun t z ht => hfl.out t z (by omega), ?_⟩, by simp [intOf]; omega⟩
          · exact box_block hb2 hgl.out
          · exact box_below HB.out (Nat.le_trans hbase HB.out.size) hb2
        · have HS := Lib.hid hs
          clear hs
          have HD := Lib.hid (st_keep hd.out Hy.out HS.out)
          have hac : (acc.length + 1) * 6 ≤ cap * 6 := Nat.mul_le_mul_right 6 (by omega)
          go_wp2_with (go_at_call 23; refine (isCross_any y _).mono ?_; rintro e w2 ⟨rfl, hb2⟩; rw [HS.out]; have hrow := HRW.out.of_block (box_block hb2 hgl.out); have hc2 := bcell hb2; have d0 := hrow.cell (i := acc.length * 6) (by omega); have d1 := hrow.cell (i := acc.length * 6 + 1) (by omega); have d2 := hrow.cell (i := acc.length * 6 + 2) (by omega); have d3 := hrow.cell (i := acc.length * 6 + 3) (by omega); have d4 := hrow.cell (i := acc.length * 6 + 4) (by omega); have d5 := hrow.cell (i := acc.length * 6 + 5) (by omega); have g0 := fun i => hrow.frozen i)
          refine ⟨⟨j + 1, acc ++ [y], _, by simp, by go_num, by simp; omega, by omega, rowIs_set6 hrow _ _ _ _ _ _ _, HD.out, ?_, ?_, below_set6 (box_below HB.out (Nat.le_trans hbase HB.out.size) hb2) hg _ _ _ _ _ _⟩, by simp [intOf]; omega⟩
          · intro t z ht hz
            rw [List.length_append] at ht
            refine fill6 (l := acc ++ [y]) (k := acc.length) (x := y) (by simp) rfl (fun q x hq hx => hfa.out q x hq (by rw [List.getElem?_append_left hq] at hx; exact hx)) t z (by simpa using ht) hz
          · intro t z ht hz q hq
            show some (if t * 6 + q = acc.length * 6 + 5 then _ else if t * 6 + q = acc.length * 6 + 4 then _ else if t * 6 + q = acc.length * 6 + 3 then _ else if t * 6 + q = acc.length * 6 + 2 then _ else if t * 6 + q = acc.length * 6 + 1 then _ else if t * 6 + q = acc.length * 6 then _ else f (t * 6 + q)) = _
            rw [if_neg (by omega), if_neg (by omega), if_neg (by omega), if_neg (by omega), if_neg (by omega), if_neg (by omega)]
            exact hfl.out t z (by omega) hz q hq
      · have hjn' : j = n := by omega
        have hcc : acc.length * 6 + (n - acc.length) * 6 ≤ cap * 6 := by
          rw [← Nat.add_mul]
          exact Nat.mul_le_mul_right 6 (by omega)
        obtain ⟨cur', k1, k2, k3⟩ := hrow
        have hcl := fun c => run_clear_row (P := Tryz.prog) wr 23 26 0 (.agg #[.int .i64 0, .int .i64 0, .int .i64 0, .int .i64 0, .int .i64 0, .int .i64 0]) Tryz.underlying23 (by intro W; kernel_rfl) (by simp [Value.cells]; exact rfl) (by simp [Value.cells]) g (acc.length * 6) (n - acc.length) c cur' 26 k1 (by simp [Value.cells]; omega) (by omega)
        have hca : acc.length < cap := by omega
        obtain ⟨vs, hv1, hv2⟩ := hcl (cap - acc.length)
        have HV1 := Lib.hid hv1
        have HB := Lib.hid hb
        clear hcl hv1 hb
        go_wp2
        go_ret
        have hst : stOf l = acc := by rw [hd.out, hjn', List.drop_of_length_le (by have := HN.out; omega)]; simp [stOf]
        refine ⟨.slice (some ⟨g, 0, none⟩) acc.length cap, rfl, ?_, below_setRow' HB.out hg _⟩
        rw [hst]
        refine ⟨vS_len Ev.len acc, .inr ⟨g, cap, _, rfl, hg, by rw [size_setRow]; exact (Array.getElem?_eq_some_iff.1 k1).1, heap_setRow k1 _, by omega, hcap'.out, ?_, ?_⟩⟩
        · have hz := HV1.out
          simp [Value.cells] at hz
          simp [hz]
          omega
        · have e1 : (cur'.toList.take (acc.length * 6)).length = acc.length * 6 := by rw [List.length_take]; simp; omega
          rw [List.toList_toArray, List.take_append_of_le_length (by rw [e1]; exact Nat.le_refl _), List.take_of_length_le (by rw [e1]; exact Nat.le_refl _)]
          refine vS_ext Ev.len (by omega) e1 (fun t y hy q hq => ?_)
          have ht : t < acc.length := (List.getElem?_eq_some_iff.1 hy).1
          rw [List.getElem?_take, if_pos (by omega), Array.getElem?_toList, k3 _ (by omega)]
          exact hfa.out t y ht hy q hq

set_option maxHeartbeats 1000000 in
theorem implStitchesOf_any (v : Value) (l : List Ev) (w : World) (hl : RdE w w.heap.size v l) (hlen : l.length ≤ 1048576) :
    Calls Tryz.prog 7 #[v] w (GivesOw w 26 6 (stOf l).length (vE (stOf l))) := by
  have HL := Lib.hid hl
  have HN := Lib.hid hlen
  clear hl hlen
  go_enter Tryz.func7, Tryz.ntmps7
  go_wp2_with fail
  refine (cloneE_any _ l _ HL.out HN.out).mono ?_
  rintro e w1 ⟨v1, rfl, ho, hb⟩
  have HO := Lib.hid ho
  have HB := Lib.hid hb
  clear ho hb
  go_wp2_with fail
  refine (deleteE_any _ l _ w.heap.size HO.out HB.out.size HN.out).mono ?_
  rintro e w2 ⟨v2, rfl, ho, hb⟩
  have HO2 := Lib.hid ho
  have HB2 := Lib.hid (HB.out.trans hb)
  clear ho hb
  go_wp2
  go_ret
  exact ⟨_, rfl, HO2.out, HB2.out⟩

end Go.Proofs.YtgkapjjolhnliaaGreatDoor

/-
  A braid that is an argument.
-/
namespace Go.Proofs.YtgkapjjolhnliaaGreatDoor
set_option linter.unusedVariables false
set_option linter.unusedSimpArgs false
open Go.ChangeShapes Go.WideShapes Go.ChangeAt Go.RowKit Go.Deep

theorem szBr_pos' {left z : Int} {b : Br} (h : szBr left b = z) (hz : 0 ≤ z) : (b.w.length : Int) ≤ left ∧ z = left - b.w.length := szOf_pos' h hz

/-- A braid by value whose marked word is the caller's own. -/
def OmBr (w : World) (lo hi : Nat) (v : Value) (b : Br) (K : Int) : Prop := ∃ s, v = .agg #[.int .i64 b.n, s] ∧ OwC w lo hi 2 1 s b.w.length (vM K (b.w.length * 1))
theorem OmBr.below {w w' : World} {lo hi : Nat} {v : Value} {b : Br} {K : Int} (h : ∃ s, v = .agg #[.int .i64 b.n, s] ∧ OwC w lo hi 2 1 s b.w.length (vM K (b.w.length * 1))) (hb : Below hi w w') :
    ∃ s, v = .agg #[.int .i64 b.n, s] ∧ OwC w' lo hi 2 1 s b.w.length (vM K (b.w.length * 1)) := by
  obtain ⟨s, hv, ho⟩ := h
  exact ⟨s, hv, ho.below hb⟩
theorem braidL_len {b : Br} (h : b.w.length ≤ 1048576) : (braidL b).length ≤ 1048576 := by
  unfold braidL letsE
  split <;> simp
  exact h

end Go.Proofs.YtgkapjjolhnliaaGreatDoor

/-
  A block: a braid and a list of stitches. Its size, its equality.
-/
namespace Go.Proofs.YtgkapjjolhnliaaGreatDoor
set_option linter.unusedVariables false
set_option linter.unusedSimpArgs false
open Go.RowKit

structure Bk where
  b : Br
  e : List Ev
deriving DecidableEq
/-- A block by its value: the cells of a struct within a struct lie flat. -/
def RdBkV (w : World) (B : Nat) (v : Value) (x : Bk) : Prop := ∃ s t, v = .agg #[.int .i64 x.b.n, s, t] ∧ RdI w B s x.b.w ∧ RdE w B t x.e
/-- A block by its three cells. -/
def RdBk (w : World) (B : Nat) (us : List Value) (x : Bk) : Prop := ∃ s t, us = [.int .i64 x.b.n, s, t] ∧ RdI w B s x.b.w ∧ RdE w B t x.e
theorem RdBk.val {w : World} {B : Nat} {u0 u1 u2 : Value} {x : Bk} (h : RdBk w B [u0, u1, u2] x) : RdBkV w B (.agg #[u0, u1, u2]) x := by
  obtain ⟨s, t, e, h1, h2⟩ := h
  injection e with e0 e
  injection e with e1 e
  injection e with e2 e
  subst e0 e1 e2
  exact ⟨_, _, rfl, h1, h2⟩
theorem RdBkV.below {w w' : World} {B : Nat} {v : Value} {x : Bk} (h : RdBkV w B v x) (hb : Below B w w') : RdBkV w' B v x := by
  obtain ⟨s, t, e, h1, h2⟩ := h
  exact ⟨s, t, e, h1.below hb, h2.below hb⟩
theorem RdBkV.more {w : World} {B B' : Nat} {v : Value} {x : Bk} (h : RdBkV w B v x) (hB : B ≤ B') : RdBkV w B' v x := by
  obtain ⟨s, t, e, h1, h2⟩ := h
  exact ⟨s, t, e, h1.more hB, h2.more hB⟩
theorem RdE.shape' {w : World} {B : Nat} {v : Value} {l : List Ev} (h : RdE w B v l) : ∃ A n c, v = .slice A n c := by
  obtain ⟨A, n, c, rfl, _⟩ := h
  exact ⟨A, n, c, rfl⟩
/-- What is left of a size behind a block, or -1. -/
def szBk (left : Int) (x : Bk) : Int := if szBr left x.b < 0 then -1 else szOf (szBr left x.b) x.e.length



/-- A block of the call's own, by its value: the word's row lies below 'm', the stitches' row above. -/
def OwBkV (w : World) (lo hi : Nat) (v : Value) (x : Bk) : Prop := ∃ s t m, v = .agg #[.int .i64 x.b.n, s, t] ∧ lo ≤ m ∧ m ≤ hi ∧ OwC w lo m 2 1 s x.b.w.length (vI x.b.w) ∧ OwC w m hi 26 6 t x.e.length (vE x.e)


end Go.Proofs.YtgkapjjolhnliaaGreatDoor

/-
  Words compared: slices.Equal at int64, spec.l00Same.
-/
namespace Go.Proofs.YtgkapjjolhnliaaGreatDoor
set_option linter.unusedVariables false
set_option linter.unusedSimpArgs false
open Go.RowKit

/- as equalS, at slices of int64 -/
set_option maxHeartbeats 1000000 in
set_option maxRecDepth 100000 in
theorem specSame_any (v u : Value) (l m : List Int) (w : World) (B : Nat) (hl : RdI w B v l) (hm : RdI w B u m) (hB : B ≤ w.heap.size) :
    Calls Tryz.prog 32 #[v, u] w fun x w' => x = .returned (.bool (decide (l = m))) ∧ Below w.heap.size w w' := by
  obtain ⟨A, n, c, rfl, hln, hl, gl⟩ := hl
  obtain ⟨A', n', c', rfl, hmn, hm, gm⟩ := hm
  by_cases hlen : n = n'
  · subst hlen
    go_enter Tryz.func32, Tryz.ntmps32
    go_wp2
    go_loopw [5] (fun  i wr => ∃ k : Nat, k ≤ n ∧ i = .int .i64 k ∧ Hid (decide (l = m) = decide (l.drop k = m.drop k)) ∧ Below w.heap.size w wr) (fun  i _ => n - (intOf i).toNat)
    case atStart => exact ⟨0, Nat.zero_le _, rfl, rfl, Below.refl _ _⟩
    case round =>
      rename_i wr
      obtain ⟨k, hk, rfl, hd, hb⟩ := hrel
      by_cases hlt : k < n
      · obtain ⟨b, off, x, rfl, hbb, hlk, hc⟩ := gl k hlt
        obtain ⟨b', off', y, rfl, hbb', hmk, hc'⟩ := gm k hlt
        have e0 := fun X => wgrow_cell (x := X) ((hb.cell (p := ⟨b, off + k, none⟩) (Nat.lt_of_lt_of_le hbb hB)).trans hc)
        have e1 := fun X => wgrow_cell (x := X) ((hb.cell (p := ⟨b', off' + k, none⟩) (Nat.lt_of_lt_of_le hbb' hB)).trans hc')
        have HB := Lib.hid hb
        have Hl := Lib.hid hlk
        have Hm := Lib.hid hmk
        clear hc hc' hlk hmk hb gl gm
        go_wp2
        refine wp_region_grow (by kernel_rfl) (by kernel_rfl) ?_
        repeat (go_big_quiet_step (fail))
        refine wpQuiet_nil ?_
        intro w1 hb1
        have HB1 := HB.out.trans (hb1.mono HB.out.size)
        go_wp2
        · go_ret
          exact ⟨ret_bool (by rw [hd.out, drop_of_get Hl.out, drop_of_get Hm.out]; simp_all), HB1⟩
        · exact ⟨⟨k + 1, by omega, by go_num, by unfold Hid; rw [hd.out, drop_of_get Hl.out, drop_of_get Hm.out]; simp_all, HB1⟩, by simp [intOf]; omega⟩
      · go_wp2
        go_ret
        exact ⟨ret_bool (by rw [hd.out, List.drop_of_length_le (by have := hl.out; omega), List.drop_of_length_le (by have := hm.out; omega)]; simp), hb⟩
  · have hd1 : ((n : Int) != (n' : Int)) = true := by simp; omega
    go_enter Tryz.func32, Tryz.ntmps32
    go_wp2
    go_ret
    exact ⟨ret_bool (by symm; simp; rintro rfl; exact hlen (hl.out.symm.trans hm.out)), Below.refl _ _⟩

/- a comparison of braids by value: specSameBraid theorem's name · spec.SameBraid function · specSame the words' comparison -/
set_option maxHeartbeats 1000000 in
set_option maxRecDepth 100000 in
theorem specSameBraid_any (v u : Value) (a b : Br) (w : World) (hl : RdBr w w.heap.size v a) (hm : RdBr w w.heap.size u b) :
    Calls Tryz.prog 11 #[v, u] w fun e w' => e = .returned (.bool (decide (a = b))) ∧ Below w.heap.size w w' := by
  obtain ⟨s, rfl, hs⟩ := hl
  obtain ⟨t, rfl, ht⟩ := hm
  obtain ⟨n, wd⟩ := a
  obtain ⟨m, we⟩ := b
  obtain ⟨A0, n0, c0, rfl⟩ := hs.shape
  obtain ⟨A1, n1, c1, rfl⟩ := ht.shape
  have HS := Lib.hid hs
  have HT := Lib.hid ht
  clear hs ht
  dsimp only at HS HT
  by_cases h : n = m
  · subst h
    have hd : decide ((⟨n, wd⟩ : Br) = ⟨n, we⟩) = decide (wd = we) := by simp
    rw [hd]
    clear hd
    go_enter Tryz.func11, Tryz.ntmps11
    go_wp2_with fail
    refine (specSame_any _ _ wd we _ _ (HS.out.up (((Below.refl _ _).alloc (Nat.le_refl _) _).alloc (by simp) _) (by simp; omega)) (HT.out.up (((Below.refl _ _).alloc (Nat.le_refl _) _).alloc (by simp) _) (by simp; omega)) (Nat.le_refl _)).mono ?_
    rintro e w1 ⟨rfl, hb⟩
    have HB := Lib.hid ((((Below.refl _ _).alloc (Nat.le_refl _) _).alloc (by simp) _).trans (hb.mono (by simp; omega)))
    clear hb
    go_wp2
    go_ret
    exact ⟨rfl, HB.out⟩
  · have hd : decide ((⟨n, wd⟩ : Br) = ⟨m, we⟩) = false := by simp [h]
    rw [hd]
    have h1 : (n == m) = false := by simpa using h
    have h2 : decide (n = m) = false := by simpa using h
    clear hd
    go_enter Tryz.func11, Tryz.ntmps11
    go_wp2
    go_ret
    exact ⟨rfl, ((Below.refl _ _).alloc (Nat.le_refl _) _).alloc (by simp) _⟩


def RdBks (w : World) (B : Nat) (v : Value) (l : List Bk) : Prop := RdN RdBk 3 w B v l


end Go.Proofs.YtgkapjjolhnliaaGreatDoor
