/-
  Texts joined: BlkE, BlkF, Bks3, BlkG, BlkT.
-/
import Derived.Test.YtiampiakhkpcbaaPk7
import Derived.Test.YtiampiakhkpcbaaL10e
import Derived.Test.YtiampiakhkpcbaaStrands
import Derived.Test.YtiampiakhkpcbaaAppend
import Derived.Test.YtiampiakhkpcbaaPk12
import Derived.Test.YtiampiakhkpcbaaOwn
/-
  EventsOfBlocks: which lists of blocks are valid.
-/
namespace Go.Proofs.Ytiampiakhkpcbaa
set_option linter.unusedVariables false
set_option linter.unusedSimpArgs false
open Go.RowKit

/-- One block of a row, with its lengths. -/
theorem RdBks.at2 {w : World} {B : Nat} {A : Option Addr} {n c : Nat} {l : List Bk} (h : RdBks w B (.slice A n c) l) {k : Nat} (hk : k < n) :
    ∃ b off x A0 c0 A1 c1, A = some ⟨b, off, none⟩ ∧ b < B ∧ l[k]? = some x ∧ CellsAt w b (off + k * 3) [.int .i64 x.b.n, .slice A0 x.b.w.length c0, .slice A1 x.e.length c1] ∧ RdI w B (.slice A0 x.b.w.length c0) x.b.w ∧ RdE w B (.slice A1 x.e.length c1) x.e := by
  obtain ⟨b, off, x, A0, n0, c0, A1, n1, c1, h1, h2, h3, h4, h5, h6⟩ := h.at_ hk
  obtain ⟨A2, c2, e2⟩ := h5.len
  obtain ⟨A3, c3, e3⟩ := RdS.lens h6
  injection e2 with a1 a2 a3
  injection e3 with b1 b2 b3
  subst a1 a2 a3 b1 b2 b3
  exact ⟨b, off, x, _, _, _, _, h1, h2, h3, h4, h5, h6⟩

def crossK (e : Ev) : Bool := e.k == 1
def okOne (n : Int) (x : Bk) : Bool := okBr x.b && (decide (x.b.n = n) && (decide (x.e.length ≤ 2000) && !(x.e.any crossK)))
def nextBk (n : Int) (x : Bk) : Option Int := if okOne n x = true then cntE n x.e else none
def blksGo : Int → List Bk → Bool
  | _, [] => true
  | n, x :: xs => match nextBk n x with
    | some m => blksGo m xs
    | none => false
def okBks (l : List Bk) : Bool := decide (l.length ≤ 60) && blksGo 0 l
def stGo : Int → List Ev → Option Int
  | n, [] => some n
  | n, e :: es => if valE n e = true ∧ crossK e = false ∧ aftE n e ≤ 12 then stGo (aftE n e) es else none
theorem stGo_eq : ∀ (l : List Ev) (n : Int), stGo n l = if l.any crossK = true then none else cntE n l
  | [], n => by simp [stGo, cntE]
  | e :: es, n => by
    rw [stGo, cntE, List.any_cons]
    cases hc : crossK e
    · by_cases hv : valE n e = true ∧ aftE n e ≤ 12
      · rw [if_pos ⟨hv.1, rfl, hv.2⟩, stGo_eq es, if_pos hv]
        simp
      · rw [if_neg (fun h => hv ⟨h.1, h.2.2⟩), if_neg hv]
        simp
    · simp
theorem cnt_bounds : ∀ (l : List Ev) (n m : Int), 0 ≤ n → n ≤ 12 → cntE n l = some m → 0 ≤ m ∧ m ≤ 12
  | [], n, m, h0, h1, h => by simp [cntE] at h; omega
  | e :: es, n, m, h0, h1, h => by
    rw [cntE] at h
    split at h
    · rename_i hv
      exact cnt_bounds es _ _ (aft_bounds h0 h1 hv.1).1 hv.2 h
    · cases h
theorem stGo_no {l : List Ev} {k : Nat} {x : Ev} {n m : Int} (h : stGo n l = stGo m (l.drop k)) (hx : l[k]? = some x) (hv : ¬ (valE m x = true ∧ crossK x = false ∧ aftE m x ≤ 12)) : stGo n l = none := by
  rw [h, drop_of_get hx, stGo, if_neg hv]
theorem stGo_yes {l : List Ev} {k : Nat} {x : Ev} {n m : Int} (h : stGo n l = stGo m (l.drop k)) (hx : l[k]? = some x) (hv : valE m x = true ∧ crossK x = false ∧ aftE m x ≤ 12) : stGo n l = stGo (aftE m x) (l.drop (k + 1)) := by
  rw [h, drop_of_get hx, stGo, if_pos hv]
theorem blks_no {R : Bool} {l : List Bk} {k : Nat} {x : Bk} {m : Int} (h : R = blksGo m (l.drop k)) (hx : l[k]? = some x) (hv : nextBk m x = none) : R = false := by
  rw [h, drop_of_get hx, blksGo, hv]
theorem blks_yes {R : Bool} {l : List Bk} {k : Nat} {x : Bk} {m m' : Int} (h : R = blksGo m (l.drop k)) (hx : l[k]? = some x) (hv : nextBk m x = some m') : R = blksGo m' (l.drop (k + 1)) := by
  rw [h, drop_of_get hx, blksGo, hv]
theorem nextBk_no {m : Int} {x : Bk} (h : okOne m x = false) : nextBk m x = none := by simp [nextBk, h]
theorem nextBk_yes {m : Int} {x : Bk} (h : okOne m x = true) : nextBk m x = cntE m x.e := by simp [nextBk, h]
theorem okOne_mk {m : Int} {x : Bk} (h1 : okBr x.b = true) (h2 : x.b.n = m) (h3 : x.e.length ≤ 2000) (h4 : x.e.any crossK = false) : okOne m x = true := by unfold okOne; rw [h1, h4]; simp [h2, h3]
theorem nextBk_st {m : Int} {x : Bk} (h1 : okBr x.b = true) (h2 : x.b.n = m) (h3 : x.e.length ≤ 2000) : nextBk m x = stGo m x.e := by
  rw [stGo_eq]
  unfold nextBk okOne
  rw [h1]
  cases x.e.any crossK <;> simp [h2, h3]

theorem areB1_any (x : Ev) (w : World) : Calls Try.prog 50 #[x.v] w fun e w' => e = .returned (.bool (crossK x)) ∧ Below w.heap.size w w' := by
  unfold crossK
  generalize hs : (x.k == 1) = s
  cases s
  all_goals
    go_enter Try.func50, Try.ntmps50
    go_wp2
    go_ret
    exact ⟨ret_bool (by simp_all), (Below.refl _ _).alloc (Nat.le_refl _) _⟩

/- slices.IndexFunc over events at a closure: areB name · slices.IndexFunc[[]impl.Event,impl.Event] IndexFunc's instance · impl.areBlocks$1 the closure · crossK its predicate · areB1_any its contract (x W) · #[] what it captured -/
set_option maxHeartbeats 1000000 in
theorem areB_index (v : Value) (l : List Ev) (w : World) (hl : RdE w w.heap.size v l) :
    Calls Try.prog 68 #[v, .func (.func 50) #[] #[]] w fun e w' => e = .returned (.int .i64 (idxOf crossK l)) ∧ Below w.heap.size w w' := by
  obtain ⟨A, n, c, rfl, hln, hl, gl⟩ := hl
  go_enter Try.func68, Try.ntmps68
  go_wp2
  go_loopw [5, 8] (fun _ i wr => ∃ k : Nat, k ≤ n ∧ i = .int .i64 k ∧ Hid (idxOf crossK l = idxFrom crossK k (l.drop k)) ∧ Below w.heap.size w wr) (fun _ i _ => n - (intOf i).toNat)
  case atStart => exact ⟨0, Nat.zero_le _, rfl, rfl, Below.refl _ _⟩
  case round =>
    rename_i wr
    obtain ⟨k, hk, rfl, hd, hb⟩ := hrel
    by_cases hlt : k < n
    · obtain ⟨b, off, x, rfl, hbb, hlk, hc⟩ := gl k hlt
      obtain ⟨c0, c1, c2, c3, c4, c5⟩ := (hc.below hb hbb).six
      have HB := Lib.hid hb
      have Hl := Lib.hid hlk
      clear hb hlk gl hc
      rcases hp : crossK x
      · have HP := Lib.hid hp
        clear hp
        go_wp2_with (go_at_call 50; refine (areB1_any x _).mono ?_; rintro e w1 ⟨rfl, hb1⟩; rw [HP.out])
        have HB1 := HB.out.trans (hb1.mono HB.out.size)
        exact ⟨⟨k + 1, by omega, by go_num, by unfold Hid; rw [hd.out, drop_of_get Hl.out]; simp [idxFrom, HP.out], HB1⟩, by simp [intOf]; omega⟩
      · have HP := Lib.hid hp
        clear hp
        go_wp2_with (go_at_call 50; refine (areB1_any x _).mono ?_; rintro e w1 ⟨rfl, hb1⟩; rw [HP.out])
        go_ret
        exact ⟨ret_int (by rw [hd.out, drop_of_get Hl.out]; simp [idxFrom, HP.out]), HB.out.trans (hb1.mono HB.out.size)⟩
    · have HB := Lib.hid hb
      clear hb gl
      go_wp2
      go_ret
      exact ⟨ret_int (by rw [hd.out, List.drop_of_length_le (by have := hl.out; omega)]; rfl), HB.out⟩

theorem areB_contains (v : Value) (l : List Ev) (w : World) (hl : RdE w w.heap.size v l) :
    Calls Try.prog 49 #[v, .func (.func 50) #[] #[]] w fun e w' => e = .returned (.bool (l.any crossK)) ∧ Below w.heap.size w w' := by
  have hi := idxOf_any crossK l
  have HX := Lib.hid (areB_index v l w hl)
  clear hl
  generalize hA : l.any crossK = A at hi ⊢
  generalize hI : idxOf crossK l = I at hi HX
  clear hI hA
  cases A
  · have h1 : ¬ 0 ≤ I := by simpa using hi
    clear hi
    go_enter Try.func49, Try.ntmps49
    go_wp2_with fail
    refine HX.out.mono ?_
    rintro e w1 ⟨rfl, hb1⟩
    go_wp2
    go_ret
    exact ⟨ret_bool (by simp [h1]), hb1⟩
  · have h1 : 0 ≤ I := by simpa using hi
    clear hi
    go_enter Try.func49, Try.ntmps49
    go_wp2_with fail
    refine HX.out.mono ?_
    rintro e w1 ⟨rfl, hb1⟩
    go_wp2
    go_ret
    exact ⟨ret_bool (by simp [h1]), hb1⟩

set_option maxHeartbeats 8000000 in
set_option maxRecDepth 100000 in
theorem areBlocks_any (v : Value) (l : List Bk) (w : World) (hl : RdBks w w.heap.size v l) :
    Calls Try.prog 31 #[v] w fun e w' => e = .returned (.bool (okBks l)) ∧ Below w.heap.size w w' := by
  obtain ⟨A, cp, rfl⟩ := RdN.shape hl
  have hbig := RdN.le hl
  have HL := Lib.hid hl
  clear hl
  unfold okBks
  generalize hln : l.length = n at *
  have HLN := Lib.hid hln
  clear hln
  generalize hR : blksGo 0 l = R
  have HR := Lib.hid (show R = blksGo 0 (l.drop 0) by rw [← hR]; rfl)
  clear hR
  go_enter Try.func31, Try.ntmps31
  go_wp2
  go_loopw [3, 10] (fun t i wr => ∃ (k : Nat) (m : Int), k ≤ n ∧ i = .int .i64 k ∧ t = .int .i64 m ∧ 0 ≤ m ∧ m ≤ 12 ∧ Hid (R = blksGo m (l.drop k)) ∧ Below w.heap.size w wr) (fun _ i _ => n - (intOf i).toNat)
  case atStart => exact ⟨0, 0, Nat.zero_le _, rfl, rfl, by omega, by omega, HR.out, Below.refl _ _⟩
  case round =>
    rename_i wr
    obtain ⟨k, m, hk, rfl, rfl, m0, m1, hd, hb⟩ := hrel
    by_cases hlt : k < n
    · obtain ⟨b, off, x, A0, c0, A1, c1, rfl, hbb, hlk, hc, hs, ht⟩ := (RdBks.below HL.out hb).at2 hlt
      obtain ⟨e0, e1, e2⟩ := hc.three
      have hsz := hb.size
      have HB := Lib.hid hb
      have Hl := Lib.hid hlk
      have HS := Lib.hid hs
      have HT := Lib.hid ht
      have HY := Lib.hid (CellsAt.of_alloc (w := wr) (us := [.int .i64 x.b.n, .slice A0 x.b.w.length c0, .slice A1 x.e.length c1]) (t := 45))
      have HV := Lib.hid (validBraid_any _ x.b _ ⟨_, rfl, HS.out.up ((Below.refl _ _).alloc hsz (.cells #[.int .i64 x.b.n, .slice A0 x.b.w.length c0, .slice A1 x.e.length c1] 45)) (by simp; omega)⟩)
      clear hb hlk hc hs ht
      cases ho : okBr x.b
      · have HN := Lib.hid (blks_no hd.out Hl.out (nextBk_no (show okOne m x = false by simp [okOne, ho])))
        rw [ho] at HV
        clear ho
        go_wp2_with fail
        refine HV.out.mono ?_
        rintro e w1 ⟨rfl, hb1⟩
        have HB1 := Lib.hid ((HB.out.alloc hsz _).trans (hb1.mono (by simp; omega)))
        clear hb1
        go_wp2
        go_ret
        exact ⟨ret_bool (by rw [HN.out, Bool.and_false]), HB1.out⟩
      · have HO := Lib.hid ho
        rw [ho] at HV
        clear ho
        by_cases hn : x.b.n = m
        · have HNM := Lib.hid hn
          subst hn
          by_cases hlen : x.e.length ≤ 2000
          · have hl1 : ¬ (2000 : Int) < (x.e.length : Int) := by omega
            cases ha : x.e.any crossK
            · have HA := Lib.hid ha
              have HNX := Lib.hid (nextBk_yes (okOne_mk HO.out rfl hlen ha))
              clear ha
              cases hcn : cntE x.b.n x.e
              · have HCN := Lib.hid hcn
                have HN := Lib.hid (blks_no hd.out Hl.out (HNX.out.trans hcn))
                clear hcn
                go_wp2_with fail
                refine HV.out.mono ?_
                rintro e w1 ⟨rfl, hb1⟩
                have hy := HY.out.below hb1 (by simp)
                obtain ⟨y0, y1, y2⟩ := hy.three
                have HB1 := Lib.hid ((HB.out.alloc hsz _).trans (hb1.mono (by simp; omega)))
                have hz1 : wr.heap.size < w1.heap.size := by have := hb1.size; simp at this; omega
                have HY1 := Lib.hid hy
                have HBw1 := Lib.hid (show Below wr.heap.size wr w1 from ((Below.refl _ _).alloc (Nat.le_refl _) _).trans (hb1.mono (by simp)))
                clear hb1 hy
                go_wp2_with fail
                refine (areB_contains _ x.e _ ((HT.out.below (HBw1.out.mono hsz)).more (by omega))).mono ?_
                rintro e w2 ⟨rfl, hb2⟩
                rw [HA.out]
                have hy := HY1.out.below hb2 hz1
                obtain ⟨y0, y1, y2⟩ := hy.three
                have hz2 := hb2.size
                have HB2 := Lib.hid (HB1.out.trans (hb2.mono HB1.out.size))
                have HBw2 := Lib.hid (HBw1.out.trans (hb2.mono (by omega)))
                clear hb2 hy
                go_wp2_with fail
                refine (strandsAfter_any _ x.e _ m0 m1 _ _ ((HT.out.below (HBw2.out.mono hsz)).more (by omega)) (Nat.le_refl _)).mono ?_
                rintro e w3 ⟨he, hb3⟩
                have he' : e = .returned (.tuple #[.int .i64 0, .bool false]) := by unfold cntR at he; rw [HCN.out] at he; exact he
                subst he'
                clear he
                have HB3 := Lib.hid (HB2.out.trans (hb3.mono HB2.out.size))
                clear hb3
                go_wp2
                go_ret
                exact ⟨ret_bool (by rw [HN.out, Bool.and_false]), HB3.out⟩
              · rename_i m'
                have HCN := Lib.hid hcn
                obtain ⟨q0, q1⟩ := cnt_bounds x.e _ _ m0 m1 hcn
                have HN := Lib.hid (blks_yes hd.out Hl.out (HNX.out.trans hcn))
                clear hcn
                go_wp2_with fail
                refine HV.out.mono ?_
                rintro e w1 ⟨rfl, hb1⟩
                have hy := HY.out.below hb1 (by simp)
                obtain ⟨y0, y1, y2⟩ := hy.three
                have HB1 := Lib.hid ((HB.out.alloc hsz _).trans (hb1.mono (by simp; omega)))
                have hz1 : wr.heap.size < w1.heap.size := by have := hb1.size; simp at this; omega
                have HY1 := Lib.hid hy
                have HBw1 := Lib.hid (show Below wr.heap.size wr w1 from ((Below.refl _ _).alloc (Nat.le_refl _) _).trans (hb1.mono (by simp)))
                clear hb1 hy
                go_wp2_with fail
                refine (areB_contains _ x.e _ ((HT.out.below (HBw1.out.mono hsz)).more (by omega))).mono ?_
                rintro e w2 ⟨rfl, hb2⟩
                rw [HA.out]
                have hy := HY1.out.below hb2 hz1
                obtain ⟨y0, y1, y2⟩ := hy.three
                have hz2 := hb2.size
                have HB2 := Lib.hid (HB1.out.trans (hb2.mono HB1.out.size))
                have HBw2 := Lib.hid (HBw1.out.trans (hb2.mono (by omega)))
                clear hb2 hy
                go_wp2_with fail
                refine (strandsAfter_any _ x.e _ m0 m1 _ _ ((HT.out.below (HBw2.out.mono hsz)).more (by omega)) (Nat.le_refl _)).mono ?_
                rintro e w3 ⟨he, hb3⟩
                have he' : e = .returned (.tuple #[.int .i64 m', .bool true]) := by unfold cntR at he; rw [HCN.out] at he; exact he
                subst he'
                clear he
                have HB3 := Lib.hid (HB2.out.trans (hb3.mono HB2.out.size))
                clear hb3
                go_wp2
                exact ⟨⟨k + 1, m', by omega, by go_num, rfl, q0, q1, HN.out, HB3.out⟩, by simp [intOf]; omega⟩
            · have HA := Lib.hid ha
              have HN := Lib.hid (blks_no hd.out Hl.out (nextBk_no (show okOne x.b.n x = false by simp [okOne, ha])))
              clear ha
              go_wp2_with fail
              refine HV.out.mono ?_
              rintro e w1 ⟨rfl, hb1⟩
              have hy := HY.out.below hb1 (by simp)
              obtain ⟨y0, y1, y2⟩ := hy.three
              have HB1 := Lib.hid ((HB.out.alloc hsz _).trans (hb1.mono (by simp; omega)))
              have hz1 : wr.heap.size < w1.heap.size := by have := hb1.size; simp at this; omega
              have HBw1 := Lib.hid (show Below wr.heap.size wr w1 from ((Below.refl _ _).alloc (Nat.le_refl _) _).trans (hb1.mono (by simp)))
              clear hb1 hy
              go_wp2_with fail
              refine (areB_contains _ x.e _ ((HT.out.below (HBw1.out.mono hsz)).more (by omega))).mono ?_
              rintro e w2 ⟨rfl, hb2⟩
              rw [HA.out]
              have HB2 := Lib.hid (HB1.out.trans (hb2.mono HB1.out.size))
              clear hb2
              go_wp2
              go_ret
              exact ⟨ret_bool (by rw [HN.out, Bool.and_false]), HB2.out⟩
          · have hl1 : (2000 : Int) < (x.e.length : Int) := by omega
            have HN := Lib.hid (blks_no hd.out Hl.out (nextBk_no (show okOne x.b.n x = false by simp [okOne, hlen])))
            clear hlen
            go_wp2_with fail
            refine HV.out.mono ?_
            rintro e w1 ⟨rfl, hb1⟩
            have hy := HY.out.below hb1 (by simp)
            obtain ⟨y0, y1, y2⟩ := hy.three
            have HB1 := Lib.hid ((HB.out.alloc hsz _).trans (hb1.mono (by simp; omega)))
            clear hb1 hy
            go_wp2
            go_ret
            exact ⟨ret_bool (by rw [HN.out, Bool.and_false]), HB1.out⟩
        · have hn1 : (x.b.n != m) = true := by rw [bne_iff_ne]; exact hn
          have HN := Lib.hid (blks_no hd.out Hl.out (nextBk_no (show okOne m x = false by simp [okOne, hn])))
          clear hn
          go_wp2_with fail
          refine HV.out.mono ?_
          rintro e w1 ⟨rfl, hb1⟩
          have hy := HY.out.below hb1 (by simp)
          obtain ⟨y0, y1, y2⟩ := hy.three
          have HB1 := Lib.hid ((HB.out.alloc hsz _).trans (hb1.mono (by simp; omega)))
          clear hb1 hy
          go_wp2
          go_ret
          exact ⟨ret_bool (by rw [HN.out, Bool.and_false]), HB1.out⟩
    · have HB := Lib.hid hb
      have HN := Lib.hid (show R = true by rw [hd.out, List.drop_of_length_le (by have := HLN.out; omega)]; rfl)
      clear hb hd
      go_wp2
      go_ret
      exact ⟨ret_bool (by rw [HN.out, Bool.and_true]; simp; try omega), HB.out⟩


end Go.Proofs.Ytiampiakhkpcbaa

/-
  EventsOfBlocks of the program and of the reference.
-/
namespace Go.Proofs.Ytiampiakhkpcbaa
set_option linter.unusedVariables false
set_option linter.unusedSimpArgs false
open Go.RowKit

/-- The events of blocks. -/
def bkE (x : Bk) : List Ev := letsE x.b.w ++ x.e
def evsB (l : List Bk) : List Ev := l.flatMap bkE
/-- Blocks whose events can be listed. -/
structure FitEB (l : List Bk) : Prop where
  len : l.length ≤ 2100
  all : ∀ x ∈ l, Lets x.b.w ∧ x.b.w.length ≤ 40 ∧ x.e.length ≤ 2000
theorem evs_snoc {Y acc : List Ev} {l : List Bk} {k : Nat} {x : Bk} (h : Y = acc ++ evsB (l.drop k)) (hx : l[k]? = some x) : Y = (acc ++ letsE x.b.w) ++ x.e ++ evsB (l.drop (k + 1)) := by
  rw [h, drop_of_get hx]
  simp [evsB, bkE]
theorem vE_append (a b : List Ev) : vE (a ++ b) = vE a ++ vE b := by simp [vS]
theorem vE_one' (l : List Ev) : ∀ u ∈ vE l, u.oneCell' = true := by
  intro u hu
  unfold vE vS at hu
  rw [List.mem_flatMap] at hu
  obtain ⟨x, _, hx⟩ := hu
  simp at hx
  rcases hx with rfl | rfl | rfl | rfl | rfl | rfl <;> rfl
theorem letsE_len (l : List Int) : (letsE l).length = l.length := by simp [letsE]


set_option maxHeartbeats 4000000 in
set_option maxRecDepth 100000 in
theorem eventsOf_any (v : Value) (l : List Bk) (w : World) (hl : RdBks w w.heap.size v l) (hf : FitEB l) :
    Calls Try.prog 26 #[v] w (GivesOw w 33 6 (evsB l).length (vE (evsB l))) := by
  obtain ⟨A, cp, rfl⟩ := RdN.shape hl
  obtain ⟨i0, hi, hy0, hy1, hy2⟩ := info_parts info_ev
  have hlen := hf.len
  have HF := Lib.hid hf.all
  clear hf
  have HL := Lib.hid hl
  clear hl
  generalize hln : l.length = n at *
  have HLN := Lib.hid hln
  clear hln
  generalize hY : evsB l = Y
  have HY := Lib.hid (show Y = [] ++ evsB (l.drop 0) by rw [← hY]; rfl)
  clear hY
  go_enter Try.func26, Try.ntmps26
  go_wp2
  go_loopw [3, 9] (fun t i wr => ∃ (k : Nat) (acc : List Ev), k ≤ n ∧ i = .int .i64 k ∧ wr.ownsRow w.heap.size 33 6 t acc.length (vE acc) ∧ acc.length ≤ k * 2040 ∧ Hid (Y = acc ++ evsB (l.drop k)) ∧ Below w.heap.size w wr) (fun _ i _ => n - (intOf i).toNat)
  case atStart => exact ⟨0, [], Nat.zero_le _, rfl, World.ownsRow_lit _ _ _ (Nat.le_refl _) (by unfold maxLen; omega) rfl, Nat.le_refl _, HY.out, (Below.refl _ _).alloc (Nat.le_refl _) _⟩
  case round =>
    rename_i wr
    obtain ⟨k, acc, hk, rfl, hown, hak, hd, hb⟩ := hrel
    by_cases hlt : k < n
    · obtain ⟨b, off, x, A0, c0, A1, c1, rfl, hbb, hlk, hc, hs, ht⟩ := (RdBks.below HL.out hb).at2 hlt
      obtain ⟨e0, e1, e2⟩ := hc.three
      have hsz := hb.size
      obtain ⟨f1, f2, f3⟩ := HF.out x (List.mem_of_getElem? hlk)
      have HF1 := Lib.hid f1
      have HB := Lib.hid hb
      have HD := Lib.hid (evs_snoc hd.out hlk)
      have HS := Lib.hid hs
      have HT := Lib.hid (ht.reads Ev.len (by decide)).1
      have HC := Lib.hid (CellsAt.of_alloc (w := wr) (us := [.int .i64 x.b.n, .slice A0 x.b.w.length c0, .slice A1 x.e.length c1]) (t := 45))
      have HO := Lib.hid hown
      have HLL := Lib.hid (letsE_len x.b.w)
      have HBA := Lib.hid (show Below w.heap.size w (wr.alloc (.cells #[.int .i64 x.b.n, .slice A0 x.b.w.length c0, .slice A1 x.e.length c1] 45)) from HB.out.alloc hsz _)
      clear hb hlk hc hs ht f1 hown
      go_wp2_with fail
      refine (wordEvents_any _ x.b.w _ (HS.out.up ((Below.refl _ _).alloc hsz _) (by simp; omega)) HF1.out (by omega)).mono ?_
      rintro e w1 ⟨v1, rfl, ho1, hb1⟩
      obtain ⟨A2, c2, rfl, -⟩ := ho1.cells
      have HR1 := Lib.hid ((RdS.of_own Ev.len ho1).reads Ev.len (by decide)).1
      have HO1 := Lib.hid (own_below (HO.out.alloc _) hb1)
      have HB1 := Lib.hid (HBA.out.trans (hb1.mono (by simp; omega)))
      have hz1 : wr.heap.size < w1.heap.size := by have := hb1.size; simp at this; omega
      have HY1 := Lib.hid (HC.out.below hb1 (by simp))
      have hll : (letsE x.b.w).length ≤ 40 := by have := HLL.out; omega
      have hrow := Lib.hid (fun kk hkk => (HO.out.lt kk hkk).2)
      clear hb1 ho1 e0 e1 e2
      go_wp2_with (at_builtin; refine wpList_append_any _ rfl _ _ _ rfl w.heap.size 33 i0 _ 6 48 Try.underlying23 hi hy0 hy1 hy2 rfl (by decide) _ _ _ rfl HO1.out w1.heap.size A2 (letsE x.b.w).length c2 (vE (letsE x.b.w)) rfl HR1.out (vE_one' _) (by unfold maxLen; omega) (by omega) HB1.out.size ?_)
      intro v2 w2 hown2 hg2 hat2
      have HB2 := Lib.hid (HB1.out.grown hg2 HB1.out.size (fun kk hkk => (HO1.out.lt kk hkk).1))
      have HO2 : Hid (w2.ownsRow w.heap.size 33 6 v2 (acc ++ letsE x.b.w).length (vE (acc ++ letsE x.b.w))) := by unfold Hid; rw [List.length_append, vE_append]; exact hown2
      obtain ⟨e0, e1, e2⟩ := (HY1.out.keep (fun o => World.cell?_of_block (a := ⟨wr.heap.size, o, none⟩) (hg2.block wr.heap.size hz1 (fun he => by have := hrow.out _ he.symm; omega)))).three
      have HT2 := Lib.hid (show Reads w2 w.heap.size 6 A1 x.e.length (vE x.e) from HT.out.keep fun p hp => (HB2.out.cell hp).trans (HB.out.cell hp).symm)
      clear hown2 hg2 hat2 HO1 HR1
      go_wp2_with (at_builtin; refine wpList_append_any _ rfl _ _ _ rfl w.heap.size 33 i0 _ 6 48 Try.underlying23 hi hy0 hy1 hy2 rfl (by decide) _ _ _ rfl HO2.out w.heap.size A1 x.e.length c1 (vE x.e) rfl HT2.out (vE_one' _) (by rw [List.length_append]; unfold maxLen; omega) (by rw [List.length_append]; omega) HB2.out.size ?_)
      intro v3 w3 hown3 hg3 hat3
      have HB3 := Lib.hid (HB2.out.grown hg3 HB2.out.size (fun kk hkk => (HO2.out.lt kk hkk).1))
      have HO3 : Hid (w3.ownsRow w.heap.size 33 6 v3 (acc ++ letsE x.b.w ++ x.e).length (vE (acc ++ letsE x.b.w ++ x.e))) := by unfold Hid; rw [List.length_append, vE_append, List.length_append]; exact hown3
      clear hown3 hg3 hat3 e0 e1 e2
      go_wp2
      exact ⟨⟨k + 1, acc ++ letsE x.b.w ++ x.e, by omega, by go_num, HO3.out, by rw [List.length_append, List.length_append]; omega, HD.out, HB3.out⟩, by simp [intOf]; omega⟩
    · have HB := Lib.hid hb
      have HO := Lib.hid hown
      have HD := Lib.hid (show Y = acc by rw [hd.out, List.drop_of_length_le (by have := HLN.out; omega)]; simp [evsB])
      clear hb hown hd
      go_wp2
      go_ret
      exact ⟨_, rfl, by rw [HD.out]; exact OwC.of_own HO.out, HB.out⟩

end Go.Proofs.Ytiampiakhkpcbaa

/-
  BlocksOf and ReduceEvents, of the program and of the reference.
-/
namespace Go.Proofs.Ytiampiakhkpcbaa
set_option linter.unusedVariables false
set_option linter.unusedSimpArgs false
open Go.RowKit

noncomputable def bkoL (l : List Ev) : List Bk := if okEvs l = true then bksL l else []
noncomputable def bkoC (l : List Ev) : Int := if okEvs l = true then bksC l else 1
theorem bko_no {l : List Ev} (h : okEvs l = false) : bkoL l = [] ∧ bkoC l = 1 := by simp [bkoL, bkoC, h]
theorem bko_yes {l : List Ev} (h : okEvs l = true) : bkoL l = bksL l ∧ bkoC l = bksC l := by simp [bkoL, bkoC, h]
def GivesBo (w : World) (l : List Ev) (e : Ending) (w' : World) : Prop := ∃ v, e = .returned (.tuple #[v, .int .i64 (bkoC l)]) ∧ OwBl w' w.heap.size w'.heap.size v (bkoL l) ∧ Below w.heap.size w w'
theorem GivesBo.no {w w' : World} {l : List Ev} (h : okEvs l = false) (hb : Below w.heap.size w w') : GivesBo w l (.returned (.tuple #[.slice none 0 0, .int .i64 1])) w' := by
  obtain ⟨h1, h2⟩ := bko_no h
  refine ⟨_, by rw [h2], ?_, hb⟩
  rw [h1]
  exact OwBl.nil hb.size
theorem OwBl.wide {w : World} {lo lo' hi : Nat} {v : Value} {l : List Bk} (h : OwBl w lo hi v l) (hl : lo' ≤ lo) : OwBl w lo' hi v l := by
  obtain ⟨a, b, f, h1, h2, h3⟩ := h
  exact ⟨a, b, f, fun j hj => ⟨Nat.le_trans hl (h1 j hj).1, (h1 j hj).2⟩, h2, h3⟩
theorem OwBl.shape {w : World} {lo hi : Nat} {v : Value} {l : List Bk} (h : OwBl w lo hi v l) : ∃ A c, v = .slice A l.length c := by
  obtain ⟨a, b, f, h1, h2, h3, h4⟩ := h
  obtain ⟨A, c, e, _⟩ := h3.cells
  exact ⟨A, c, e⟩
theorem GivesBo.yes {w w1 w' : World} {l : List Ev} {e : Ending} (h : okEvs l = true) (hb : Below w.heap.size w w1) (hg : GivesBl w1 l e w') : GivesBo w l e w' := by
  obtain ⟨h1, h2⟩ := bko_yes h
  obtain ⟨v, rfl, ho, hb'⟩ := hg
  exact ⟨v, by rw [h2], by rw [h1]; exact ho.wide hb.size, hb.trans (hb'.mono hb.size)⟩

set_option maxHeartbeats 1000000 in
theorem implBlocksOf_any (v : Value) (l : List Ev) (w : World) (hl : RdE w w.heap.size v l) : Calls Try.prog 12 #[v] w (GivesBo w l) := by
  have HL := Lib.hid hl
  clear hl
  cases hok : okEvs l
  all_goals
    have HO := Lib.hid hok
    clear hok
    go_enter Try.func12, Try.ntmps12
    go_wp2_with fail
    refine (implValidEvents_any _ l _ _ HL.out (Nat.le_refl _)).mono ?_
    rintro e w1 ⟨rfl, hb1⟩
    rw [HO.out]
    have HB := Lib.hid hb1
    clear hb1
  · go_wp2
    go_ret2
    exact GivesBo.no HO.out HB.out
  · go_wp2_with fail
    refine (blocks_any _ l _ (RdS.more (HL.out.below HB.out) HB.out.size) HO.out).mono ?_
    rintro e w2 hg
    have HG := Lib.hid (GivesBo.yes HO.out HB.out hg)
    obtain ⟨v2, rfl, -, -⟩ := hg
    go_wp2
    go_ret2
    exact HG.out

set_option maxHeartbeats 1000000 in
theorem specBlocksOf_any (v : Value) (l : List Ev) (w : World) (hl : RdE w w.heap.size v l) : Calls Try.prog 11 #[v] w (GivesBo w l) := by
  have HL := Lib.hid hl
  clear hl
  cases hok : okEvs l
  all_goals
    have HO := Lib.hid hok
    clear hok
    go_enter Try.func11, Try.ntmps11
    go_wp2_with fail
    refine (l10Count_any _ l _ _ HL.out (Nat.le_refl _)).mono ?_
    rintro e w1 ⟨rfl, hb1⟩
    rw [HO.out]
    have HB := Lib.hid hb1
    clear hb1
  · go_wp2
    go_ret2
    exact GivesBo.no HO.out HB.out
  · go_wp2_with fail
    refine (l13Blocks_any _ l _ (RdS.more (HL.out.below HB.out) HB.out.size) HO.out).mono ?_
    rintro e w2 hg
    have HG := Lib.hid (GivesBo.yes HO.out HB.out hg)
    obtain ⟨v2, rfl, -, -⟩ := hg
    go_wp2
    go_ret2
    exact HG.out

/-- The blocks of valid events, where there are not too many. -/
theorem good_of {l : List Ev} (h : okEvs l = true) (hc : bksC l = 0) : (∀ x ∈ bksL l, GoodB 2000 x) ∧ (bksL l).length ≤ 60 := by
  cases ho : bkO l with
  | none => rw [(bks_none ho).2] at hc; omega
  | some o =>
    rw [(bks_some ho).1]
    exact good_bks h ho
theorem LetsN.lets {n : Nat} {l : List Int} (h : LetsN n l) (hn : n ≤ 12) : Lets l := fun x hx => by
  obtain ⟨h1, h2⟩ := h x hx
  exact ⟨h1, by omega, by omega⟩
theorem fit_of {l : List Ev} (h : okEvs l = true) (hc : bksC l = 0) : FitEB (bksL l) := by
  obtain ⟨h1, h2⟩ := good_of h hc
  refine ⟨by omega, fun x hx => ?_⟩
  have := h1 x hx
  exact ⟨this.lets.lets (by have := this.n1; omega), this.wl, this.el⟩
theorem bksC_cases (l : List Ev) : bksC l = 0 ∨ bksC l = 5 := by unfold bksC; split <;> simp
theorem bksL_nil {l : List Ev} (h : bksC l = 5) : bksL l = [] := by
  cases ho : bkO l with
  | none => exact (bks_none ho).1
  | some o => rw [(bks_some ho).2] at h; omega

/-- The events of the blocks of events. -/
noncomputable def rdcL (l : List Ev) : List Ev := evsB (bkoL l)
theorem GivesC.no5 {w w' : World} {l : List Ev} {c : Int} (h : bkoL l = [] ∧ bkoC l = c) (hb : Below w.heap.size w w') : GivesC w 33 6 (rdcL l).length (vE (rdcL l)) (bkoC l) (.returned (.tuple #[.slice none 0 0, .int .i64 c])) w' := by
  refine ⟨_, by rw [h.2], ?_, hb⟩
  unfold rdcL
  rw [h.1]
  exact .nil

set_option maxHeartbeats 1000000 in
theorem implReduce_any (v : Value) (l : List Ev) (w : World) (hl : RdE w w.heap.size v l) : Calls Try.prog 9 #[v] w (GivesC w 33 6 (rdcL l).length (vE (rdcL l)) (bkoC l)) := by
  have HQ := Lib.hid (implBlocksOf_any v l w hl)
  clear hl
  by_cases hc : bkoC l = 0
  · have hok : okEvs l = true := by
      cases h : okEvs l
      · rw [(bko_no h).2] at hc; omega
      · rfl
    have HF := Lib.hid (fit_of hok (by rw [← (bko_yes hok).2]; exact hc))
    have HE := Lib.hid (bko_yes hok).1
    have HC := Lib.hid hc
    clear hc hok
    go_enter Try.func9, Try.ntmps9
    go_wp2_with fail
    refine HQ.out.mono ?_
    rintro e w1 ⟨v1, rfl, ho, hb1⟩
    rw [HC.out]
    have HB := Lib.hid hb1
    have HR := Lib.hid ho.rd
    clear hb1 ho
    go_wp2_with fail
    refine (eventsOf_any _ (bkoL l) _ HR.out (HE.out ▸ HF.out)).mono ?_
    rintro e w2 ⟨v2, rfl, ho2, hb2⟩
    have HO2 := Lib.hid (ho2.wide HB.out.size (Nat.le_refl _))
    have HB2 := Lib.hid (HB.out.trans (hb2.mono HB.out.size))
    clear ho2 hb2
    go_wp2
    go_ret2
    exact ⟨v2, (by rw [HC.out]; rfl), HO2.out, HB2.out⟩
  · have hcc : bkoC l = 1 ∨ bkoC l = 5 := by
      cases h : okEvs l
      · exact .inl (bko_no h).2
      · rcases bksC_cases l with h1 | h1 <;> rw [← (bko_yes h).2] at h1
        · exact absurd h1 hc
        · exact .inr h1
    have HN : Hid (bkoL l = []) := by
      cases h : okEvs l
      · exact (bko_no h).1
      · unfold Hid
        rw [(bko_yes h).1]
        rcases hcc with h1 | h1 <;> rw [(bko_yes h).2] at h1
        · rcases bksC_cases l with h2 | h2 <;> omega
        · exact bksL_nil h1
    clear hc
    rcases hcc with hc | hc
    all_goals
      have HC := Lib.hid hc
      clear hc
      go_enter Try.func9, Try.ntmps9
      go_wp2_with fail
      refine HQ.out.mono ?_
      rintro e w1 ⟨v1, rfl, ho, hb1⟩
      rw [HC.out]
      have HB := Lib.hid hb1
      clear hb1 ho
      go_wp2
      go_ret2
      have h9 := GivesC.no5 ⟨HN.out, HC.out⟩ HB.out
      rw [HC.out] at h9 ⊢
      exact h9


end Go.Proofs.Ytiampiakhkpcbaa

/-
  EventsOfBlocks of the program and of the reference: the result and the code.
-/
namespace Go.Proofs.Ytiampiakhkpcbaa
set_option linter.unusedVariables false
set_option linter.unusedSimpArgs false
open Go.RowKit

theorem okOne_fit {n : Int} {x : Bk} (h : okOne n x = true) : Lets x.b.w ∧ x.b.w.length ≤ 40 ∧ x.e.length ≤ 2000 := by
  unfold okOne at h
  simp only [Bool.and_eq_true, decide_eq_true_eq] at h
  obtain ⟨h1, h2, h3, h4⟩ := h
  obtain ⟨a, b, c⟩ := lets_of h1
  exact ⟨a, b, h3⟩
theorem blksGo_fit : ∀ (l : List Bk) (n : Int), blksGo n l = true → ∀ x ∈ l, Lets x.b.w ∧ x.b.w.length ≤ 40 ∧ x.e.length ≤ 2000
  | [], n, h, x, hx => by simp at hx
  | y :: ys, n, h, x, hx => by
    rw [blksGo] at h
    cases ho : okOne n y
    · rw [nextBk_no ho] at h
      cases h
    · rw [nextBk_yes ho] at h
      rcases List.mem_cons.1 hx with rfl | hx
      · exact okOne_fit ho
      · cases hc : cntE n y.e
        · rw [hc] at h; cases h
        · rw [hc] at h; exact blksGo_fit ys _ h x hx
theorem okBks_fit {l : List Bk} (h : okBks l = true) : FitEB l := by
  unfold okBks at h
  simp only [Bool.and_eq_true, decide_eq_true_eq] at h
  exact ⟨by omega, blksGo_fit l 0 h.2⟩
theorem evsB_len : ∀ (l : List Bk), (∀ x ∈ l, Lets x.b.w ∧ x.b.w.length ≤ 40 ∧ x.e.length ≤ 2000) → (evsB l).length ≤ l.length * 2040
  | [], h => by simp [evsB]
  | x :: xs, h => by
    have ih := evsB_len xs (fun y hy => h y (List.mem_cons_of_mem _ hy))
    obtain ⟨h1, h2, h3⟩ := h x List.mem_cons_self
    have h4 := letsE_len x.b.w
    have e : evsB (x :: xs) = bkE x ++ evsB xs := rfl
    rw [e, List.length_append, List.length_cons]
    unfold bkE
    rw [List.length_append]
    omega
/-- The code of EventsOfBlocks, and its events. -/
def evbC (l : List Bk) : Int := if okBks l = false then 1 else if 2000 < (evsB l).length then 5 else 0
def evbR (l : List Bk) : List Ev := if evbC l = 0 then evsB l else []
theorem evbC_bad {l : List Bk} (h : okBks l = false) : evbC l = 1 := by simp [evbC, h]
theorem evbC_full {l : List Bk} (h : okBks l = true) (h2 : 2000 < (evsB l).length) : evbC l = 5 := by simp [evbC, h, h2]
theorem evbC_ok {l : List Bk} (h : okBks l = true) (h2 : ¬ 2000 < (evsB l).length) : evbC l = 0 := by simp [evbC, h, h2]
theorem evbR_len (l : List Bk) : (evbR l).length ≤ 1048576 := by
  unfold evbR
  split
  · rename_i h
    unfold evbC at h
    split at h
    · omega
    · split at h
      · omega
      · omega
  · simp
theorem evb_no {w w' : World} {l : List Bk} {c : Int} (h : evbC l = c) (hc : c ≠ 0) (hb : Below w.heap.size w w') : GivesC w 33 6 (evbR l).length (vE (evbR l)) (evbC l) (.returned (.tuple #[.slice none 0 0, .int .i64 c])) w' := by
  have e : evbR l = [] := by unfold evbR; rw [if_neg (by rw [h]; exact hc)]
  rw [e, h]
  exact ⟨_, rfl, OwC.nil, hb⟩
theorem evb_yes {w w' : World} {l : List Bk} {v : Value} (h : evbC l = 0) (ho : OwC w' w.heap.size w'.heap.size 33 6 v (evsB l).length (vE (evsB l))) (hb : Below w.heap.size w w') : GivesC w 33 6 (evbR l).length (vE (evbR l)) (evbC l) (.returned (.tuple #[v, .int .i64 0])) w' := by
  have e : evbR l = evsB l := by unfold evbR; rw [if_pos h]
  rw [e, h]
  exact ⟨_, rfl, ho, hb⟩

/- EventsOfBlocks: spec.EventsOfBlocks function · specEvb name · l13Ok_any the test · l13Events_any the events -/
/- EventsOfBlocks: impl.EventsOfBlocks function · implEvb name · areBlocks_any the test · eventsOf_any the events -/
set_option maxHeartbeats 4000000 in
set_option maxRecDepth 100000 in
theorem implEvb_any (v : Value) (l : List Bk) (w : World) (hl : RdBks w w.heap.size v l) :
    Calls Try.prog 13 #[v] w (GivesC w 33 6 (evbR l).length (vE (evbR l)) (evbC l)) := by
  have HL := Lib.hid hl
  have HV := Lib.hid (areBlocks_any v l w hl)
  obtain ⟨A, cp, rfl⟩ := RdN.shape hl
  clear hl
  cases ho : okBks l
  · have HN := Lib.hid (fun w' hb => evb_no (w := w) (w' := w') (evbC_bad ho) (by decide) hb)
    rw [ho] at HV
    clear ho
    go_enter Try.func13, Try.ntmps13
    go_wp2_with fail
    refine HV.out.mono ?_
    rintro e w1 ⟨rfl, hb⟩
    have HB := Lib.hid hb
    clear hb
    go_wp2
    go_ret2
    exact HN.out _ HB.out
  · have HF := Lib.hid (okBks_fit ho)
    rw [ho] at HV
    have HQ := Lib.hid (fun w1 (hb : Below w.heap.size w w1) => eventsOf_any _ l w1 ((HL.out.below hb).more hb.size) HF.out)
    by_cases h2 : 2000 < (evsB l).length
    · have HN := Lib.hid (fun w' hb => evb_no (w := w) (w' := w') (evbC_full ho h2) (by decide) hb)
      have h2' : (2000 : Int) < ((evsB l).length : Int) := by omega
      clear ho
      go_enter Try.func13, Try.ntmps13
      go_wp2_with fail
      refine HV.out.mono ?_
      rintro e w1 ⟨rfl, hb⟩
      have HB := Lib.hid hb
      clear hb
      go_wp2_with fail
      refine (HQ.out _ HB.out).mono ?_
      rintro e w2 ⟨v2, rfl, hw, hb⟩
      obtain ⟨A2, c2, rfl, -⟩ := hw.cells
      have HB2 := Lib.hid (HB.out.trans (hb.mono HB.out.size))
      clear hb hw
      go_wp2
      go_ret2
      exact HN.out _ HB2.out
    · have HN := Lib.hid (fun w' v hw hb => evb_yes (w := w) (w' := w') (v := v) (evbC_ok ho h2) hw hb)
      have h2' : ¬ (2000 : Int) < ((evsB l).length : Int) := by omega
      clear ho
      go_enter Try.func13, Try.ntmps13
      go_wp2_with fail
      refine HV.out.mono ?_
      rintro e w1 ⟨rfl, hb⟩
      have HB := Lib.hid hb
      clear hb
      go_wp2_with fail
      refine (HQ.out _ HB.out).mono ?_
      rintro e w2 ⟨v2, rfl, hw, hb⟩
      obtain ⟨A2, c2, rfl, -⟩ := hw.cells
      have HB2 := Lib.hid (HB.out.trans (hb.mono HB.out.size))
      have HW := Lib.hid (hw.wide HB.out.size (Nat.le_refl _))
      clear hb hw
      go_wp2
      go_ret2
      exact HN.out _ _ HW.out HB2.out

end Go.Proofs.Ytiampiakhkpcbaa

/-
  SameBlocks of the program and of the reference.
-/
namespace Go.Proofs.Ytiampiakhkpcbaa
set_option linter.unusedVariables false
set_option linter.unusedSimpArgs false
open Go.RowKit


set_option maxHeartbeats 4000000 in
set_option maxRecDepth 100000 in
theorem specSameBlocks_any (v u : Value) (l m : List Bk) (w : World) (hl : RdBks w w.heap.size v l) (hm : RdBks w w.heap.size u m) :
    Calls Try.prog 14 #[v, u] w fun x w' => x = .returned (.bool (decide (l = m))) ∧ Below w.heap.size w w' := by
  obtain ⟨A, cp, rfl⟩ := RdN.shape hl
  obtain ⟨A', cp', rfl⟩ := RdN.shape hm
  have hbig := RdN.le hl
  have hbig' := RdN.le hm
  have HL := Lib.hid hl
  have HM := Lib.hid hm
  clear hl hm
  generalize hln : l.length = n at *
  generalize hmn : m.length = n' at *
  have HLN := Lib.hid hln
  have HMN := Lib.hid hmn
  clear hln hmn
  by_cases hlen : n = n'
  · subst hlen
    go_enter Try.func14, Try.ntmps14
    go_wp2
    go_loopw [5] (fun i wr => ∃ k : Nat, k ≤ n ∧ i = .int .i64 k ∧ Hid (decide (l = m) = decide (l.drop k = m.drop k)) ∧ Below w.heap.size w wr) (fun i _ => n - (intOf i).toNat)
    case atStart => exact ⟨0, Nat.zero_le _, rfl, rfl, Below.refl _ _⟩
    case round =>
      rename_i wr
      obtain ⟨k, hk, rfl, hd, hb⟩ := hrel
      by_cases hlt : k < n
      · obtain ⟨b, off, x, A0, n0, c0, A1, n1, c1, rfl, hbb, hlk, hc, hs, ht⟩ := (RdBks.below HL.out hb).at_ hlt
        obtain ⟨b', off', y, A2, n2, c2, A3, n3, c3, rfl, hbb', hmk, hc', hp, hq⟩ := (RdBks.below HM.out hb).at_ hlt
        have HS := fun X => Lib.hid (hs.up (B := w.heap.size) (below_wgrow wr X |>.mono hb.size) (Nat.le_trans hb.size (below_wgrow wr X).size))
        have HP := fun X => Lib.hid (hp.up (B := w.heap.size) (below_wgrow wr X |>.mono hb.size) (Nat.le_trans hb.size (below_wgrow wr X).size))
        have HT := fun X => Lib.hid (show RdE (wgrow wr X) (wgrow wr X).heap.size _ _ from (ht.below (below_wgrow wr X |>.mono hb.size)).more (Nat.le_trans hb.size (below_wgrow wr X).size))
        have HU := fun X => Lib.hid (show RdE (wgrow wr X) (wgrow wr X).heap.size _ _ from (hq.below (below_wgrow wr X |>.mono hb.size)).more (Nat.le_trans hb.size (below_wgrow wr X).size))
        obtain ⟨e0, e1, e2⟩ := hc.grow3
        obtain ⟨f0, f1, f2⟩ := hc'.grow3
        have HB := Lib.hid hb
        have Hl := Lib.hid hlk
        have Hm := Lib.hid hmk
        clear hc hc' hlk hmk hb hs ht hp hq
        have HQ1 := fun X => Lib.hid (specSameBraid_any _ _ x.b y.b _ ⟨_, rfl, (HS X).out⟩ ⟨_, rfl, (HP X).out⟩)
        have HQ2 := fun X => Lib.hid (specSameEvents_any _ _ x.e y.e _ _ (HT X).out (HU X).out (Nat.le_refl _))
        clear HS HP HT HU
        cases h1 : decide (x.b = y.b)
        · have HN : Hid (decide (l = m) = false) := by
            unfold Hid
            rw [hd.out, drop_of_get Hl.out, drop_of_get Hm.out]
            have h2 := of_decide_eq_false h1
            simp
            rintro rfl
            exact absurd rfl h2
          rw [h1] at HQ1
          clear h1
          go_wp2
          refine wp_region_grow (by kernel_rfl) (by kernel_rfl) ?_
          repeat (go_big_quiet_step ((first | (go_at_call 32; exact calls_grow (HQ1 _).out) | (go_at_call 17; exact calls_grow (HQ2 _).out))))
          refine wpQuiet_nil ?_
          intro w1 hb1
          have HB1 := HB.out.trans (hb1.mono HB.out.size)
          go_wp2
          go_ret
          exact ⟨ret_bool HN.out.symm, HB1⟩
        · cases h2 : decide (x.e = y.e)
          · have HN : Hid (decide (l = m) = false) := by
              unfold Hid
              rw [hd.out, drop_of_get Hl.out, drop_of_get Hm.out]
              have h3 := of_decide_eq_false h2
              simp
              rintro rfl
              exact absurd rfl h3
            rw [h1] at HQ1
            rw [h2] at HQ2
            clear h1 h2
            go_wp2
            refine wp_region_grow (by kernel_rfl) (by kernel_rfl) ?_
            repeat (go_big_quiet_step ((first | (go_at_call 32; exact calls_grow (HQ1 _).out) | (go_at_call 17; exact calls_grow (HQ2 _).out))))
            refine wpQuiet_nil ?_
            intro w1 hb1
            have HB1 := HB.out.trans (hb1.mono HB.out.size)
            go_wp2
            go_ret
            exact ⟨ret_bool HN.out.symm, HB1⟩
          · have HN : Hid (decide (l = m) = decide (l.drop (k + 1) = m.drop (k + 1))) := by
              unfold Hid
              rw [hd.out, drop_of_get Hl.out, drop_of_get Hm.out]
              have h3 := of_decide_eq_true h1
              have h4 := of_decide_eq_true h2
              have h5 : x = y := by
                obtain ⟨x1, x2⟩ := x
                obtain ⟨y1, y2⟩ := y
                simp only at h3 h4
                subst h3 h4
                rfl
              subst h5
              simp
            rw [h1] at HQ1
            rw [h2] at HQ2
            clear h1 h2
            go_wp2
            refine wp_region_grow (by kernel_rfl) (by kernel_rfl) ?_
            repeat (go_big_quiet_step ((first | (go_at_call 32; exact calls_grow (HQ1 _).out) | (go_at_call 17; exact calls_grow (HQ2 _).out))))
            refine wpQuiet_nil ?_
            intro w1 hb1
            have HB1 := HB.out.trans (hb1.mono HB.out.size)
            go_wp2
            exact ⟨⟨k + 1, by omega, by go_num, HN.out, HB1⟩, by simp [intOf]; omega⟩
      · have HB := Lib.hid hb
        clear hb
        go_wp2
        go_ret
        exact ⟨ret_bool (by rw [hd.out, List.drop_of_length_le (by have := HLN.out; omega), List.drop_of_length_le (by have := HMN.out; omega)]; simp), HB.out⟩
  · have hd1 : ((n : Int) != (n' : Int)) = true := by simp; omega
    have HN := Lib.hid (show decide (l = m) = false by simp; rintro rfl; exact hlen (HLN.out.symm.trans HMN.out))
    go_enter Try.func14, Try.ntmps14
    go_wp2
    go_ret
    exact ⟨ret_bool HN.out.symm, Below.refl _ _⟩

end Go.Proofs.Ytiampiakhkpcbaa
