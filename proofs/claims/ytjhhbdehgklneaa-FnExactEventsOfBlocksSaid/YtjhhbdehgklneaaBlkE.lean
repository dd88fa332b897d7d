/-
  EventsOfBlocks: which lists of blocks are valid.
-/
import Derived.Test.YtjhhbdehgklneaaBlkS
import Derived.Test.YtjhhbdehgklneaaL10e
import Derived.Test.YtjhhbdehgklneaaStrands
import Derived.Test.YtjhhbdehgklneaaAppend
namespace Go.Proofs.Ytjhhbdehgklneaa
set_option linter.unusedVariables false
set_option linter.unusedSimpArgs false
open Go.RowKit

/-- One block of a row, with its lengths. -/
theorem RdBks.at2 {w : World} {B : Nat} {A : Option Addr} {n c : Nat} {l : List Bk} (h : RdBks w B (.slice A n c) l) {k : Nat} (hk : k < n) :
    ∃ b off x A0 c0 A1 c1, A = some ⟨b, off, none⟩ ∧ b < B ∧ l[k]? = some x ∧ CellsAt w b (off + k * 3) [.int .i64 x.b.n, .slice A0 x.b.w.length c0, .slice A1 x.e.length c1] ∧ RdI w B (.slice A0 x.b.w.length c0) x.b.w ∧ RdE w B (.slice A1 x.e.length c1) x.e := by
  obtain ⟨b, off, x, A0, n0, c0, A1, n1, c1, h1, h2, h3, h4, h5, h6⟩ := h.at_ hk
  obtain ⟨A2, c2, e2⟩ := h5.len
  obtain ⟨A3, c3, e3⟩ := RdS.lens h6
  injection e2 with a1 a2 a3
  injection e3 with b1 b2 b3
  subst a1 a2 a3 b1 b2 b3
  exact ⟨b, off, x, _, _, _, _, h1, h2, h3, h4, h5, h6⟩

def crossK (e : Ev) : Bool := e.k == 1
def okOne (n : Int) (x : Bk) : Bool := okBr x.b && (decide (x.b.n = n) && (decide (x.e.length ≤ 2000) && !(x.e.any crossK)))
def nextBk (n : Int) (x : Bk) : Option Int := if okOne n x = true then cntE n x.e else none
def blksGo : Int → List Bk → Bool
  | _, [] => true
  | n, x :: xs => match nextBk n x with
    | some m => blksGo m xs
    | none => false
def okBks (l : List Bk) : Bool := decide (l.length ≤ 60) && blksGo 0 l
def stGo : Int → List Ev → Option Int
  | n, [] => some n
  | n, e :: es => if valE n e = true ∧ crossK e = false ∧ aftE n e ≤ 12 then stGo (aftE n e) es else none
theorem stGo_eq : ∀ (l : List Ev) (n : Int), stGo n l = if l.any crossK = true then none else cntE n l
  | [], n => by simp [stGo, cntE]
  | e :: es, n => by
    rw [stGo, cntE, List.any_cons]
    cases hc : crossK e
    · by_cases hv : valE n e = true ∧ aftE n e ≤ 12
      · rw [if_pos ⟨hv.1, rfl, hv.2⟩, stGo_eq es, if_pos hv]
        simp
      · rw [if_neg (fun h => hv ⟨h.1, h.2.2⟩), if_neg hv]
        simp
    · simp
theorem cnt_bounds : ∀ (l : List Ev) (n m : Int), 0 ≤ n → n ≤ 12 → cntE n l = some m → 0 ≤ m ∧ m ≤ 12
  | [], n, m, h0, h1, h => by simp [cntE] at h; omega
  | e :: es, n, m, h0, h1, h => by
    rw [cntE] at h
    split at h
    · rename_i hv
      exact cnt_bounds es _ _ (aft_bounds h0 h1 hv.1).1 hv.2 h
    · cases h
theorem stGo_no {l : List Ev} {k : Nat} {x : Ev} {n m : Int} (h : stGo n l = stGo m (l.drop k)) (hx : l[k]? = some x) (hv : ¬ (valE m x = true ∧ crossK x = false ∧ aftE m x ≤ 12)) : stGo n l = none := by
  rw [h, drop_of_get hx, stGo, if_neg hv]
theorem stGo_yes {l : List Ev} {k : Nat} {x : Ev} {n m : Int} (h : stGo n l = stGo m (l.drop k)) (hx : l[k]? = some x) (hv : valE m x = true ∧ crossK x = false ∧ aftE m x ≤ 12) : stGo n l = stGo (aftE m x) (l.drop (k + 1)) := by
  rw [h, drop_of_get hx, stGo, if_pos hv]
theorem blks_no {R : Bool} {l : List Bk} {k : Nat} {x : Bk} {m : Int} (h : R = blksGo m (l.drop k)) (hx : l[k]? = some x) (hv : nextBk m x = none) : R = false := by
  rw [h, drop_of_get hx, blksGo, hv]
theorem blks_yes {R : Bool} {l : List Bk} {k : Nat} {x : Bk} {m m' : Int} (h : R = blksGo m (l.drop k)) (hx : l[k]? = some x) (hv : nextBk m x = some m') : R = blksGo m' (l.drop (k + 1)) := by
  rw [h, drop_of_get hx, blksGo, hv]
theorem nextBk_no {m : Int} {x : Bk} (h : okOne m x = false) : nextBk m x = none := by simp [nextBk, h]
theorem nextBk_yes {m : Int} {x : Bk} (h : okOne m x = true) : nextBk m x = cntE m x.e := by simp [nextBk, h]
theorem okOne_mk {m : Int} {x : Bk} (h1 : okBr x.b = true) (h2 : x.b.n = m) (h3 : x.e.length ≤ 2000) (h4 : x.e.any crossK = false) : okOne m x = true := by unfold okOne; rw [h1, h4]; simp [h2, h3]
theorem nextBk_st {m : Int} {x : Bk} (h1 : okBr x.b = true) (h2 : x.b.n = m) (h3 : x.e.length ≤ 2000) : nextBk m x = stGo m x.e := by
  rw [stGo_eq]
  unfold nextBk okOne
  rw [h1]
  cases x.e.any crossK <;> simp [h2, h3]

theorem areB1_any (x : Ev) (w : World) : Calls Try.prog 62 #[x.v] w fun e w' => e = .returned (.bool (crossK x)) ∧ Below w.heap.size w w' := by
  unfold crossK
  generalize hs : (x.k == 1) = s
  cases s
  all_goals
    go_enter Try.func62, Try.ntmps62
    go_wp2
    go_ret
    exact ⟨ret_bool (by simp_all), (Below.refl _ _).alloc (Nat.le_refl _) _⟩

/- slices.IndexFunc over events at a closure: areB name · slices.IndexFunc[[]impl.Event,impl.Event] IndexFunc's instance · impl.areBlocks$1 the closure · crossK its predicate · areB1_any its contract (x W) · #[] what it captured -/
set_option maxHeartbeats 1000000 in
theorem areB_index (v : Value) (l : List Ev) (w : World) (hl : RdE w w.heap.size v l) :
    Calls Try.prog 53 #[v, .func (.func 62) #[] #[]] w fun e w' => e = .returned (.int .i64 (idxOf crossK l)) ∧ Below w.heap.size w w' := by
  obtain ⟨A, n, c, rfl, hln, hl, gl⟩ := hl
  go_enter Try.func53, Try.ntmps53
  go_wp2
  go_loopw [5, 8] (fun _ i wr => ∃ k : Nat, k ≤ n ∧ i = .int .i64 k ∧ Hid (idxOf crossK l = idxFrom crossK k (l.drop k)) ∧ Below w.heap.size w wr) (fun _ i _ => n - (intOf i).toNat)
  case atStart => exact ⟨0, Nat.zero_le _, rfl, rfl, Below.refl _ _⟩
  case round =>
    rename_i wr
    obtain ⟨k, hk, rfl, hd, hb⟩ := hrel
    by_cases hlt : k < n
    · obtain ⟨b, off, x, rfl, hbb, hlk, hc⟩ := gl k hlt
      obtain ⟨c0, c1, c2, c3, c4, c5⟩ := (hc.below hb hbb).six
      have HB := Lib.hid hb
      have Hl := Lib.hid hlk
      clear hb hlk gl hc
      rcases hp : crossK x
      · have HP := Lib.hid hp
        clear hp
        go_wp2_with (go_at_call 62; refine (areB1_any x _).mono ?_; rintro e w1 ⟨rfl, hb1⟩; rw [HP.out])
        have HB1 := HB.out.trans (hb1.mono HB.out.size)
        exact ⟨⟨k + 1, by omega, by go_num, by unfold Hid; rw [hd.out, drop_of_get Hl.out]; simp [idxFrom, HP.out], HB1⟩, by simp [intOf]; omega⟩
      · have HP := Lib.hid hp
        clear hp
        go_wp2_with (go_at_call 62; refine (areB1_any x _).mono ?_; rintro e w1 ⟨rfl, hb1⟩; rw [HP.out])
        go_ret
        exact ⟨ret_int (by rw [hd.out, drop_of_get Hl.out]; simp [idxFrom, HP.out]), HB.out.trans (hb1.mono HB.out.size)⟩
    · have HB := Lib.hid hb
      clear hb gl
      go_wp2
      go_ret
      exact ⟨ret_int (by rw [hd.out, List.drop_of_length_le (by have := hl.out; omega)]; rfl), HB.out⟩

theorem areB_contains (v : Value) (l : List Ev) (w : World) (hl : RdE w w.heap.size v l) :
    Calls Try.prog 28 #[v, .func (.func 62) #[] #[]] w fun e w' => e = .returned (.bool (l.any crossK)) ∧ Below w.heap.size w w' := by
  have hi := idxOf_any crossK l
  have HX := Lib.hid (areB_index v l w hl)
  clear hl
  generalize hA : l.any crossK = A at hi ⊢
  generalize hI : idxOf crossK l = I at hi HX
  clear hI hA
  cases A
  · have h1 : ¬ 0 ≤ I := by simpa using hi
    clear hi
    go_enter Try.func28, Try.ntmps28
    go_wp2_with fail
    refine HX.out.mono ?_
    rintro e w1 ⟨rfl, hb1⟩
    go_wp2
    go_ret
    exact ⟨ret_bool (by simp [h1]), hb1⟩
  · have h1 : 0 ≤ I := by simpa using hi
    clear hi
    go_enter Try.func28, Try.ntmps28
    go_wp2_with fail
    refine HX.out.mono ?_
    rintro e w1 ⟨rfl, hb1⟩
    go_wp2
    go_ret
    exact ⟨ret_bool (by simp [h1]), hb1⟩

set_option maxHeartbeats 8000000 in
set_option maxRecDepth 100000 in
theorem areBlocks_any (v : Value) (l : List Bk) (w : World) (hl : RdBks w w.heap.size v l) :
    Calls Try.prog 47 #[v] w fun e w' => e = .returned (.bool (okBks l)) ∧ Below w.heap.size w w' := by
  obtain ⟨A, cp, rfl⟩ := RdN.shape hl
  have hbig := RdN.le hl
  have HL := Lib.hid hl
  clear hl
  unfold okBks
  generalize hln : l.length = n at *
  have HLN := Lib.hid hln
  clear hln
  generalize hR : blksGo 0 l = R
  have HR := Lib.hid (show R = blksGo 0 (l.drop 0) by rw [← hR]; rfl)
  clear hR
  go_enter Try.func47, Try.ntmps47
  go_wp2
  go_loopw [3, 10] (fun t i wr => ∃ (k : Nat) (m : Int), k ≤ n ∧ i = .int .i64 k ∧ t = .int .i64 m ∧ 0 ≤ m ∧ m ≤ 12 ∧ Hid (R = blksGo m (l.drop k)) ∧ Below w.heap.size w wr) (fun _ i _ => n - (intOf i).toNat)
  case atStart => exact ⟨0, 0, Nat.zero_le _, rfl, rfl, by omega, by omega, HR.out, Below.refl _ _⟩
  case round =>
    rename_i wr
    obtain ⟨k, m, hk, rfl, rfl, m0, m1, hd, hb⟩ := hrel
    by_cases hlt : k < n
    · obtain ⟨b, off, x, A0, c0, A1, c1, rfl, hbb, hlk, hc, hs, ht⟩ := (RdBks.below HL.out hb).at2 hlt
      obtain ⟨e0, e1, e2⟩ := hc.three
      have hsz := hb.size
      have HB := Lib.hid hb
      have Hl := Lib.hid hlk
      have HS := Lib.hid hs
      have HT := Lib.hid ht
      have HY := Lib.hid (CellsAt.of_alloc (w := wr) (us := [.int .i64 x.b.n, .slice A0 x.b.w.length c0, .slice A1 x.e.length c1]) (t := 66))
      have HV := Lib.hid (validBraid_any _ x.b _ ⟨_, rfl, HS.out.up ((Below.refl _ _).alloc hsz (.cells #[.int .i64 x.b.n, .slice A0 x.b.w.length c0, .slice A1 x.e.length c1] 66)) (by simp; omega)⟩)
      clear hb hlk hc hs ht
      cases ho : okBr x.b
      · have HN := Lib.hid (blks_no hd.out Hl.out (nextBk_no (show okOne m x = false by simp [okOne, ho])))
        rw [ho] at HV
        clear ho
        go_wp2_with fail
        refine HV.out.mono ?_
        rintro e w1 ⟨rfl, hb1⟩
        have HB1 := Lib.hid ((HB.out.alloc hsz _).trans (hb1.mono (by simp; omega)))
        clear hb1
        go_wp2
        go_ret
        exact ⟨ret_bool (by rw [HN.out, Bool.and_false]), HB1.out⟩
      · have HO := Lib.hid ho
        rw [ho] at HV
        clear ho
        by_cases hn : x.b.n = m
        · have HNM := Lib.hid hn
          subst hn
          by_cases hlen : x.e.length ≤ 2000
          · have hl1 : ¬ (2000 : Int) < (x.e.length : Int) := by omega
            cases ha : x.e.any crossK
            · have HA := Lib.hid ha
              have HNX := Lib.hid (nextBk_yes (okOne_mk HO.out rfl hlen ha))
              clear ha
              cases hcn : cntE x.b.n x.e
              · have HCN := Lib.hid hcn
                have HN := Lib.hid (blks_no hd.out Hl.out (HNX.out.trans hcn))
                clear hcn
                go_wp2_with fail
                refine HV.out.mono ?_
                rintro e w1 ⟨rfl, hb1⟩
                have hy := HY.out.below hb1 (by simp)
                obtain ⟨y0, y1, y2⟩ := hy.three
                have HB1 := Lib.hid ((HB.out.alloc hsz _).trans (hb1.mono (by simp; omega)))
                have hz1 : wr.heap.size < w1.heap.size := by have := hb1.size; simp at this; omega
                have HY1 := Lib.hid hy
                have HBw1 := Lib.hid (show Below wr.heap.size wr w1 from ((Below.refl _ _).alloc (Nat.le_refl _) _).trans (hb1.mono (by simp)))
                clear hb1 hy
                go_wp2_with fail
                refine (areB_contains _ x.e _ ((HT.out.below (HBw1.out.mono hsz)).more (by omega))).mono ?_
                rintro e w2 ⟨rfl, hb2⟩
                rw [HA.out]
                have hy := HY1.out.below hb2 hz1
                obtain ⟨y0, y1, y2⟩ := hy.three
                have hz2 := hb2.size
                have HB2 := Lib.hid (HB1.out.trans (hb2.mono HB1.out.size))
                have HBw2 := Lib.hid (HBw1.out.trans (hb2.mono (by omega)))
                clear hb2 hy
                go_wp2_with fail
                refine (strandsAfter_any _ x.e _ m0 m1 _ _ ((HT.out.below (HBw2.out.mono hsz)).more (by omega)) (Nat.le_refl _)).mono ?_
                rintro e w3 ⟨he, hb3⟩
                have he' : e = .returned (.tuple #[.int .i64 0, .bool false]) := by unfold cntR at he; rw [HCN.out] at he; exact he
                subst he'
                clear he
                have HB3 := Lib.hid (HB2.out.trans (hb3.mono HB2.out.size))
                clear hb3
                go_wp2
                go_ret
                exact ⟨ret_bool (by rw [HN.out, Bool.and_false]), HB3.out⟩
              · rename_i m'
                have HCN := Lib.hid hcn
                obtain ⟨q0, q1⟩ := cnt_bounds x.e _ _ m0 m1 hcn
                have HN := Lib.hid (blks_yes hd.out Hl.out (HNX.out.trans hcn))
                clear hcn
                go_wp2_with fail
                refine HV.out.mono ?_
                rintro e w1 ⟨rfl, hb1⟩
                have hy := HY.out.below hb1 (by simp)
                obtain ⟨y0, y1, y2⟩ := hy.three
                have HB1 := Lib.hid ((HB.out.alloc hsz _).trans (hb1.mono (by simp; omega)))
                have hz1 : wr.heap.size < w1.heap.size := by have := hb1.size; simp at this; omega
                have HY1 := Lib.hid hy
                have HBw1 := Lib.hid (show Below wr.heap.size wr w1 from ((Below.refl _ _).alloc (Nat.le_refl _) _).trans (hb1.mono (by simp)))
                clear hb1 hy
                go_wp2_with fail
                refine (areB_contains _ x.e _ ((HT.out.below (HBw1.out.mono hsz)).more (by omega))).mono ?_
                rintro e w2 ⟨rfl, hb2⟩
                rw [HA.out]
                have hy := HY1.out.below hb2 hz1
                obtain ⟨y0, y1, y2⟩ := hy.three
                have hz2 := hb2.size
                have HB2 := Lib.hid (HB1.out.trans (hb2.mono HB1.out.size))
                have HBw2 := Lib.hid (HBw1.out.trans (hb2.mono (by omega)))
                clear hb2 hy
                go_wp2_with fail
                refine (strandsAfter_any _ x.e _ m0 m1 _ _ ((HT.out.below (HBw2.out.mono hsz)).more (by omega)) (Nat.le_refl _)).mono ?_
                rintro e w3 ⟨he, hb3⟩
                have he' : e = .returned (.tuple #[.int .i64 m', .bool true]) := by unfold cntR at he; rw [HCN.out] at he; exact he
                subst he'
                clear he
                have HB3 := Lib.hid (HB2.out.trans (hb3.mono HB2.out.size))
                clear hb3
                go_wp2
                exact ⟨⟨k + 1, m', by omega, by go_num, rfl, q0, q1, HN.out, HB3.out⟩, by simp [intOf]; omega⟩
            · have HA := Lib.hid ha
              have HN := Lib.hid (blks_no hd.out Hl.out (nextBk_no (show okOne x.b.n x = false by simp [okOne, ha])))
              clear ha
              go_wp2_with fail
              refine HV.out.mono ?_
              rintro e w1 ⟨rfl, hb1⟩
              have hy := HY.out.below hb1 (by simp)
              obtain ⟨y0, y1, y2⟩ := hy.three
              have HB1 := Lib.hid ((HB.out.alloc hsz _).trans (hb1.mono (by simp; omega)))
              have hz1 : wr.heap.size < w1.heap.size := by have := hb1.size; simp at this; omega
              have HBw1 := Lib.hid (show Below wr.heap.size wr w1 from ((Below.refl _ _).alloc (Nat.le_refl _) _).trans (hb1.mono (by simp)))
              clear hb1 hy
              go_wp2_with fail
              refine (areB_contains _ x.e _ ((HT.out.below (HBw1.out.mono hsz)).more (by omega))).mono ?_
              rintro e w2 ⟨rfl, hb2⟩
              rw [HA.out]
              have HB2 := Lib.hid (HB1.out.trans (hb2.mono HB1.out.size))
              clear hb2
              go_wp2
              go_ret
              exact ⟨ret_bool (by rw [HN.out, Bool.and_false]), HB2.out⟩
          · have hl1 : (2000 : Int) < (x.e.length : Int) := by omega
            have HN := Lib.hid (blks_no hd.out Hl.out (nextBk_no (show okOne x.b.n x = false by simp [okOne, hlen])))
            clear hlen
            go_wp2_with fail
            refine HV.out.mono ?_
            rintro e w1 ⟨rfl, hb1⟩
            have hy := HY.out.below hb1 (by simp)
            obtain ⟨y0, y1, y2⟩ := hy.three
            have HB1 := Lib.hid ((HB.out.alloc hsz _).trans (hb1.mono (by simp; omega)))
            clear hb1 hy
            go_wp2
            go_ret
            exact ⟨ret_bool (by rw [HN.out, Bool.and_false]), HB1.out⟩
        · have hn1 : (x.b.n != m) = true := by rw [bne_iff_ne]; exact hn
          have HN := Lib.hid (blks_no hd.out Hl.out (nextBk_no (show okOne m x = false by simp [okOne, hn])))
          clear hn
          go_wp2_with fail
          refine HV.out.mono ?_
          rintro e w1 ⟨rfl, hb1⟩
          have hy := HY.out.below hb1 (by simp)
          obtain ⟨y0, y1, y2⟩ := hy.three
          have HB1 := Lib.hid ((HB.out.alloc hsz _).trans (hb1.mono (by simp; omega)))
          clear hb1 hy
          go_wp2
          go_ret
          exact ⟨ret_bool (by rw [HN.out, Bool.and_false]), HB1.out⟩
    · have HB := Lib.hid hb
      have HN := Lib.hid (show R = true by rw [hd.out, List.drop_of_length_le (by have := HLN.out; omega)]; rfl)
      clear hb hd
      go_wp2
      go_ret
      exact ⟨ret_bool (by rw [HN.out, Bool.and_true]; simp; try omega), HB.out⟩

set_option maxHeartbeats 8000000 in
set_option maxRecDepth 100000 in
theorem l13Ok_any (v : Value) (l : List Bk) (w : World) (hl : RdBks w w.heap.size v l) :
    Calls Try.prog 45 #[v] w fun e w' => e = .returned (.bool (okBks l)) ∧ Below w.heap.size w w' := by
  obtain ⟨A, cp, rfl⟩ := RdN.shape hl
  have hbig := RdN.le hl
  have HL := Lib.hid hl
  clear hl
  unfold okBks
  generalize hln : l.length = n at *
  have HLN := Lib.hid hln
  clear hln
  generalize hR : blksGo 0 l = R
  have HR := Lib.hid (show R = blksGo 0 (l.drop 0) by rw [← hR]; rfl)
  clear hR
  by_cases h60 : n ≤ 60
  case neg =>
    have h61 : (60 : Int) < (n : Int) := by omega
    have HE := Lib.hid (show (decide (n ≤ 60) && R) = false by simp [h60])
    rw [HE.out]
    clear h60
    go_enter Try.func45, Try.ntmps45
    go_wp2
    go_ret
    exact ⟨rfl, Below.refl _ _⟩
  have h61 : ¬ (60 : Int) < (n : Int) := by omega
  have HE := Lib.hid (show (decide (n ≤ 60) && R) = R by simp [h60])
  rw [HE.out]
  clear HE
  go_enter Try.func45, Try.ntmps45
  go_wp2
  go_loopw [3, 4] (fun t i wr => ∃ (k : Nat) (m : Int), k ≤ n ∧ i = .int .i64 k ∧ t = .int .i64 m ∧ 0 ≤ m ∧ m ≤ 12 ∧ Hid (R = blksGo m (l.drop k)) ∧ Below w.heap.size w wr) (fun _ i _ => n - (intOf i).toNat)
  case atStart => exact ⟨0, 0, Nat.zero_le _, rfl, rfl, by omega, by omega, HR.out, Below.refl _ _⟩
  case round =>
    rename_i wr
    obtain ⟨k, m, hk, rfl, rfl, m0, m1, hd, hb⟩ := hrel
    by_cases hlt : k < n
    · obtain ⟨b, off, x, A0, c0, A1, c1, rfl, hbb, hlk, hc, hs, ht⟩ := (RdBks.below HL.out hb).at2 hlt
      obtain ⟨e0, e1, e2⟩ := hc.three
      have hsz := hb.size
      have HB := Lib.hid hb
      have Hl := Lib.hid hlk
      have HS := Lib.hid hs
      have HT := Lib.hid ht
      have hy0 := CellsAt.of_alloc (w := wr) (us := [.int .i64 x.b.n, .slice A0 x.b.w.length c0, .slice A1 x.e.length c1]) (t := 66)
      have HY := Lib.hid hy0
      have HV := Lib.hid (l03Ok_any x.b (.slice A0 x.b.w.length c0) wr.heap.size (wr.alloc (.cells #[.int .i64 x.b.n, .slice A0 x.b.w.length c0, .slice A1 x.e.length c1] 66)) (fun j u hu => hy0 j u (by rcases j with _ | _ | j <;> simp at hu ⊢ <;> exact hu)) (HS.out.up ((Below.refl _ _).alloc hsz (.cells #[.int .i64 x.b.n, .slice A0 x.b.w.length c0, .slice A1 x.e.length c1] 66)) (by simp; omega)))
      clear hb hlk hc hs ht hy0
      cases ho : okBr x.b
      · have HN := Lib.hid (blks_no hd.out Hl.out (nextBk_no (show okOne m x = false by simp [okOne, ho])))
        rw [ho] at HV
        clear ho
        go_wp2_with fail
        refine HV.out.mono ?_
        rintro e w1 ⟨rfl, hb1⟩
        have HB1 := Lib.hid ((HB.out.alloc hsz _).trans (hb1.mono (by simp; omega)))
        clear hb1
        go_wp2
        go_ret
        exact ⟨ret_bool HN.out.symm, HB1.out⟩
      · have HO := Lib.hid ho
        rw [ho] at HV
        clear ho
        by_cases hn : x.b.n = m
        · subst hn
          by_cases hlen : x.e.length ≤ 2000
          · have hl1 : ¬ (2000 : Int) < (x.e.length : Int) := by omega
            have HNX := Lib.hid (nextBk_st HO.out rfl hlen)
            go_wp2_with fail
            refine HV.out.mono ?_
            rintro e w1 ⟨rfl, hb1⟩
            have hy := HY.out.below hb1 (by simp)
            obtain ⟨y0, y1, y2⟩ := hy.three
            have HB1 := Lib.hid ((HB.out.alloc hsz _).trans (hb1.mono (by simp; omega)))
            have hz1 : wr.heap.size < w1.heap.size := by have := hb1.size; simp at this; omega
            have HY1 := Lib.hid hy
            have HBw1 := Lib.hid (show Below wr.heap.size wr w1 from ((Below.refl _ _).alloc (Nat.le_refl _) _).trans (hb1.mono (by simp)))
            clear hb1 hy
            go_wp2
            go_loopw [3, 6] (fun t i wi => ∃ (j : Nat) (q : Int) (W2 : World), W2 = wi ∧ j ≤ x.e.length ∧ i = .int .i64 j ∧ t = .int .i64 q ∧ 0 ≤ q ∧ q ≤ 12 ∧ Hid (stGo x.b.n x.e = stGo q (x.e.drop j)) ∧ Below w1.heap.size w1 W2) (fun _ i _ => x.e.length - (intOf i).toNat)
            case atStart => exact ⟨0, x.b.n, _, rfl, Nat.zero_le _, rfl, rfl, m0, m1, rfl, Below.refl _ _⟩
            case round =>
              obtain ⟨j, q, W2, hW2, hj, rfl, rfl, q0, q1, hq, hbi⟩ := hrel
              subst hW2
              have hzi := hbi.size
              obtain ⟨y0, y1, y2⟩ := (HY1.out.below hbi hz1).three
              have HBI := Lib.hid hbi
              have HBT := Lib.hid (HB1.out.trans (hbi.mono HB1.out.size))
              clear hbi
              by_cases hjl : j < x.e.length
              · obtain ⟨b1, off1, ev, hA1, hb1, hev, hcv⟩ := RdS.at_ HT.out hjl
                subst hA1
                have hcv1 := (hcv.below (HBw1.out.mono hsz) hb1).below HBI.out (by omega)
                have HCV := Lib.hid hcv1
                have HQ := Lib.hid (l10Event_any ev q q0 q1 b1 (off1 + j * 6) _ hcv1)
                clear hcv hcv1
                cases hv : valE q ev
                · have HN := Lib.hid (blks_no hd.out Hl.out (HNX.out.trans (stGo_no hq.out hev (by simp [hv]))))
                  clear hev
                  go_wp2_with fail
                  refine HQ.out.mono ?_
                  rintro e w3 ⟨m', rfl, hm', hb3⟩
                  rw [hv]
                  have HB3 := Lib.hid (HBT.out.trans (hb3.mono HBT.out.size))
                  clear hb3 hm' hv
                  go_wp2
                  go_ret
                  exact ⟨ret_bool HN.out.symm, HB3.out⟩
                · have ha := aft_bounds q0 q1 hv
                  cases hcr : crossK ev
                  · by_cases h12 : aftE q ev ≤ 12
                    · have HN := Lib.hid (stGo_yes hq.out hev ⟨hv, hcr, h12⟩)
                      have hk1 : (ev.k == 1) = false := hcr
                      clear hev
                      go_wp2_with fail
                      refine HQ.out.mono ?_
                      rintro e w3 ⟨m', rfl, hm', hb3⟩
                      rw [hv]
                      obtain rfl := hm' hv
                      obtain ⟨y0, y1, y2⟩ := (HY1.out.below (HBI.out.trans (hb3.mono HBI.out.size)) hz1).three
                      obtain ⟨g0, g1, g2, g3, g4, g5⟩ := (HCV.out.below hb3 (by omega)).six
                      have HB3 := Lib.hid (HBI.out.trans (hb3.mono HBI.out.size))
                      obtain ⟨a0, a1⟩ := ha
                      generalize aftE q ev = a at *
                      have h12' : ¬ (12 : Int) < a := by omega
                      clear hb3 hm' hv hcr
                      go_wp2
                      exact ⟨⟨j + 1, a, _, rfl, by omega, by go_num, rfl, a0, h12, HN.out, HB3.out⟩, by simp [intOf]; omega⟩
                    · have HN := Lib.hid (blks_no hd.out Hl.out (HNX.out.trans (stGo_no hq.out hev (fun h => h12 h.2.2))))
                      have hk1 : (ev.k == 1) = false := hcr
                      clear hev
                      go_wp2_with fail
                      refine HQ.out.mono ?_
                      rintro e w3 ⟨m', rfl, hm', hb3⟩
                      rw [hv]
                      obtain rfl := hm' hv
                      obtain ⟨y0, y1, y2⟩ := (HY1.out.below (HBI.out.trans (hb3.mono HBI.out.size)) hz1).three
                      obtain ⟨g0, g1, g2, g3, g4, g5⟩ := (HCV.out.below hb3 (by omega)).six
                      have HB3 := Lib.hid (HBT.out.trans (hb3.mono HBT.out.size))
                      obtain ⟨a0, a1⟩ := ha
                      generalize aftE q ev = a at *
                      have h12' : (12 : Int) < a := by omega
                      clear hb3 hm' hv hcr
                      go_wp2
                      go_ret
                      exact ⟨ret_bool HN.out.symm, HB3.out⟩
                  · have HN := Lib.hid (blks_no hd.out Hl.out (HNX.out.trans (stGo_no hq.out hev (by simp [hcr]))))
                    have hk1 : (ev.k == 1) = true := hcr
                    clear hev
                    go_wp2_with fail
                    refine HQ.out.mono ?_
                    rintro e w3 ⟨m', rfl, hm', hb3⟩
                    rw [hv]
                    obtain ⟨y0, y1, y2⟩ := (HY1.out.below (HBI.out.trans (hb3.mono HBI.out.size)) hz1).three
                    obtain ⟨g0, g1, g2, g3, g4, g5⟩ := (HCV.out.below hb3 (by omega)).six
                    have HB3 := Lib.hid (HBT.out.trans (hb3.mono HBT.out.size))
                    clear hb3 hm' hv hcr ha
                    go_wp2
                    go_ret
                    exact ⟨ret_bool HN.out.symm, HB3.out⟩
              · have HN := Lib.hid (show nextBk x.b.n x = some q by rw [HNX.out, hq.out, List.drop_of_length_le (by omega)]; rfl)
                have HN2 := Lib.hid (blks_yes hd.out Hl.out HN.out)
                go_wp2
                exact ⟨⟨k + 1, q, by omega, by go_num, rfl, q0, q1, HN2.out, HBT.out⟩, by simp [intOf]; omega⟩
          · have hl1 : (2000 : Int) < (x.e.length : Int) := by omega
            have HN := Lib.hid (blks_no hd.out Hl.out (nextBk_no (show okOne x.b.n x = false by simp [okOne, hlen])))
            clear hlen
            go_wp2_with fail
            refine HV.out.mono ?_
            rintro e w1 ⟨rfl, hb1⟩
            have hy := HY.out.below hb1 (by simp)
            obtain ⟨y0, y1, y2⟩ := hy.three
            have HB1 := Lib.hid ((HB.out.alloc hsz _).trans (hb1.mono (by simp; omega)))
            clear hb1 hy
            go_wp2
            go_ret
            exact ⟨ret_bool HN.out.symm, HB1.out⟩
        · have hn1 : (x.b.n != m) = true := by rw [bne_iff_ne]; exact hn
          have HN := Lib.hid (blks_no hd.out Hl.out (nextBk_no (show okOne m x = false by simp [okOne, hn])))
          clear hn
          go_wp2_with fail
          refine HV.out.mono ?_
          rintro e w1 ⟨rfl, hb1⟩
          have hy := HY.out.below hb1 (by simp)
          obtain ⟨y0, y1, y2⟩ := hy.three
          have HB1 := Lib.hid ((HB.out.alloc hsz _).trans (hb1.mono (by simp; omega)))
          clear hb1 hy
          go_wp2
          go_ret
          exact ⟨ret_bool HN.out.symm, HB1.out⟩
    · have HB := Lib.hid hb
      have HN := Lib.hid (show R = true by rw [hd.out, List.drop_of_length_le (by have := HLN.out; omega)]; rfl)
      clear hb hd
      go_wp2
      go_ret
      exact ⟨ret_bool HN.out.symm, HB.out⟩

end Go.Proofs.Ytjhhbdehgklneaa
