/-
  Rows of blocks: how they are read, opened, copied, weighed, compared.
-/
import Derived.Test.YtjhhbdehgklneaaBlkI
import Derived.Test.YtjhhbdehgklneaaOpenEv
namespace Go.Proofs.Ytjhhbdehgklneaa
set_option linter.unusedVariables false
set_option linter.unusedSimpArgs false
open Go.ChangeShapes Go.WideShapes Go.ChangeAt Go.RowKit Go.Deep

theorem RdBk.below {w w' : World} {B : Nat} (hb : Below B w w') (us : List Value) (x : Bk) (h : RdBk w B us x) : RdBk w' B us x := by
  obtain ⟨s, t, e, h1, h2⟩ := h
  exact ⟨s, t, e, h1.below hb, h2.below hb⟩
theorem RdBk.more {w : World} {B B' : Nat} (hB : B ≤ B') (us : List Value) (x : Bk) (h : RdBk w B us x) : RdBk w B' us x := by
  obtain ⟨s, t, e, h1, h2⟩ := h
  exact ⟨s, t, e, h1.more hB, h2.more hB⟩
theorem RdBks.below {w w' : World} {B : Nat} {v : Value} {l : List Bk} (h : RdBks w B v l) (hb : Below B w w') : RdBks w' B v l := RdN.below (RdBk.below hb) h hb
theorem RdBks.more {w : World} {B B' : Nat} {v : Value} {l : List Bk} (h : RdBks w B v l) (hB : B ≤ B') : RdBks w B' v l := RdN.more (RdBk.more hB) h hB
/-- One block of a row. -/
theorem RdBks.at_ {w : World} {B : Nat} {A : Option Addr} {n c : Nat} {l : List Bk} (h : RdBks w B (.slice A n c) l) {k : Nat} (hk : k < n) :
    ∃ b off x A0 n0 c0 A1 n1 c1, A = some ⟨b, off, none⟩ ∧ b < B ∧ l[k]? = some x ∧ CellsAt w b (off + k * 3) [.int .i64 x.b.n, .slice A0 n0 c0, .slice A1 n1 c1] ∧ RdI w B (.slice A0 n0 c0) x.b.w ∧ RdE w B (.slice A1 n1 c1) x.e := by
  obtain ⟨A', n', c', e, hn, hl, h⟩ := h
  injection e with e1 e2 e3
  subst e1 e2 e3
  obtain ⟨b, off, x, us, h1, h2, h3, h4, h5, s, t, rfl, h6, h7⟩ := h k hk
  obtain ⟨A0, n0, c0, rfl⟩ := h6.shape
  obtain ⟨A1, n1, c1, rfl⟩ := h7.shape'
  exact ⟨b, off, x, A0, n0, c0, A1, n1, c1, h1, h2, h3, h5, h6, h7⟩

/-! ### Sizes -/
abbrev bkL (x : Bk) : Nat := x.b.w.length + x.e.length
def szBks (left : Int) (l : List Bk) : Int := if (l.length : Int) ≤ left then szGo bkL (left - l.length) l else -1
theorem szBk_yes {z : Int} {x : Bk} (h : (bkL x : Int) ≤ z) : szBk z x = z - bkL x := by
  have h1 : szBr z x.b = z - x.b.w.length := by unfold szBr szOf; rw [if_pos (by simp only [bkL] at h; omega)]
  have h2 : ¬ (z - (x.b.w.length : Int) < 0) := by simp only [bkL] at h; omega
  unfold szBk
  rw [h1, if_neg h2]
  unfold szOf
  rw [if_pos (by simp only [bkL] at h; omega)]
  simp only [bkL]
  omega
theorem szBk_no {z : Int} {x : Bk} (h0 : 0 ≤ z) (h : ¬ (bkL x : Int) ≤ z) : szBk z x = -1 := by
  unfold szBk
  by_cases hw : (x.b.w.length : Int) ≤ z
  · have h1 : szBr z x.b = z - x.b.w.length := by unfold szBr szOf; rw [if_pos hw]
    rw [h1, if_neg (by omega)]
    unfold szOf
    rw [if_neg (by simp only [bkL] at h; omega)]
  · have h1 : szBr z x.b = -1 := by unfold szBr szOf; rw [if_neg hw]
    rw [h1, if_pos (by omega)]
theorem szBks_pos {left : Int} {l : List Bk} (h : ¬ szBks left l < 0) : szBks left l ≤ left ∧ (l.length : Int) ≤ left ∧ ∀ x ∈ l, (bkL x : Int) ≤ left := by
  unfold szBks at h ⊢
  split at h
  · rename_i hl
    rw [if_pos hl]
    obtain ⟨h1, h2⟩ := szGo_pos bkL l _ (Int.not_lt.1 h)
    exact ⟨by omega, hl, fun x hx => by have := h2 x hx; omega⟩
  · omega
theorem szGo_sum {α : Type} (f : α → Nat) : ∀ (l : List α) (z : Int), 0 ≤ szGo f z l → ((l.map f).sum : Int) ≤ z
  | [], z, h => by simpa [szGo] using h
  | x :: xs, z, h => by
    rw [szGo] at h
    split at h
    · have := szGo_sum f xs _ h
      simp only [List.map_cons, List.sum_cons, Int.natCast_add]
      omega
    · omega
/-- How many marks a block takes. -/
abbrev bkM (x : Bk) : Nat := 1 + x.b.w.length + x.e.length * 6
def bkSum (l : List Bk) : Nat := (l.map bkM).sum
theorem bkSum_le : ∀ (l : List Bk), bkSum l ≤ l.length + 6 * (l.map bkL).sum
  | [] => by simp [bkSum]
  | x :: xs => by
    have ih := bkSum_le xs
    unfold bkSum at ih ⊢
    simp only [List.map_cons, List.sum_cons, List.length_cons, bkM, bkL] at ih ⊢
    omega
/-- What fits: all lengths. -/
structure FitB (l : List Bk) : Prop where
  len : l.length ≤ 1048576
  all : ∀ x ∈ l, bkL x ≤ 1048576
  sum : bkSum l ≤ 7340032
theorem szBks_fit {left z : Int} {l : List Bk} (h : szBks left l = z) (hz : 0 ≤ z) (hl : left ≤ 1048576 := by omega) : FitB l ∧ z ≤ 1048576 := by
  subst h
  obtain ⟨h1, h2, h3⟩ := szBks_pos (Int.not_lt.2 hz)
  have h4 : ((l.map bkL).sum : Int) ≤ left - l.length := by
    unfold szBks at hz
    rw [if_pos h2] at hz
    exact szGo_sum bkL l _ hz
  have h5 := bkSum_le l
  exact ⟨⟨by omega, fun x hx => by have := h3 x hx; omega, by omega⟩, by omega⟩

set_option maxHeartbeats 2000000 in
set_option maxRecDepth 100000 in
theorem szBlockS_any (v : Value) (l : List Bk) (left : Int) (w : World) (hl : RdBks w w.heap.size v l) (h0 : 0 ≤ left) (h1 : left ≤ 1048576) :
    Calls Try.prog 15 #[v, .int .i64 left] w fun e w' => e = .returned (.int .i64 (szBks left l)) ∧ Below w.heap.size w w' := by
  obtain ⟨A, cp, rfl⟩ := hl.shape
  have hbig := RdN.le hl
  have HL := Lib.hid hl
  clear hl
  generalize hR : szBks left l = R
  have HR := Lib.hid hR
  clear hR
  by_cases hle : (l.length : Int) ≤ left
  · have HD := Lib.hid (show R = szGo bkL (left - l.length) (l.drop 0) by rw [← HR.out]; simp [szBks, hle])
    clear HR
    generalize hln : l.length = n at *
    have HLN := Lib.hid hln
    clear hln
    go_enter Try.func15, Try.ntmps15
    go_wp2
    go_loopw [1, 5] (fun t i wr => ∃ (k : Nat) (z : Int), k ≤ n ∧ i = .int .i64 k ∧ t = .int .i64 z ∧ 0 ≤ z ∧ z ≤ 1048576 ∧ Hid (R = szGo bkL z (l.drop k)) ∧ Below w.heap.size w wr) (fun _ i _ => n - (intOf i).toNat)
    case atStart => exact ⟨0, left - n, Nat.zero_le _, rfl, rfl, by omega, by omega, HD.out, Below.refl _ _⟩
    case round =>
      rename_i wr
      obtain ⟨k, z, hk, rfl, rfl, z0, z1, hd, hb⟩ := hrel
      clear hle h0 h1
      by_cases hlt : k < n
      · obtain ⟨b, off, x, A0, n0, c0, A1, n1, c1, rfl, hbb, hlk, hc, hs, ht⟩ := (RdBks.below HL.out hb).at_ hlt
        obtain ⟨e0, e1, e2⟩ := hc.three
        have HV := Lib.hid (show RdBkV wr wr.heap.size (.agg #[.int .i64 x.b.n, .slice A0 n0 c0, .slice A1 n1 c1]) x from ⟨_, _, rfl, hs.more hb.size, ht.more hb.size⟩)
        have HB := Lib.hid hb
        by_cases hx : ((bkL x : Nat) : Int) ≤ z
        · have HN := Lib.hid (szGo_yes hd.out hlk hx)
          have HZ := Lib.hid (szBk_yes hx)
          clear hb hlk hs ht hc hd
          go_wp2_with fail
          refine (szBlock_any _ x z _ HV.out z0 z1).mono ?_
          rintro e w1 ⟨rfl, hb1⟩
          have HB1 := Lib.hid (HB.out.trans (hb1.mono HB.out.size))
          rw [HZ.out]
          clear hb1
          have hx1 : (0 : Int) ≤ z - (bkL x : Nat) := by omega
          generalize hq : z - ((bkL x : Nat) : Int) = q at *
          have hq1 : q ≤ 1048576 := by omega
          clear hx hq e0 e1 e2
          go_wp2
          exact ⟨⟨k + 1, q, by omega, by go_num, rfl, hx1, hq1, HN.out, HB1.out⟩, by simp [intOf]; omega⟩
        · have HN := Lib.hid (szGo_no hd.out hlk hx)
          have HZ := Lib.hid (szBk_no z0 hx)
          clear hb hlk hs ht hc hd
          go_wp2_with fail
          refine (szBlock_any _ x z _ HV.out z0 z1).mono ?_
          rintro e w1 ⟨rfl, hb1⟩
          have HB1 := Lib.hid (HB.out.trans (hb1.mono HB.out.size))
          rw [HZ.out]
          clear hb1
          go_wp2
          go_ret
          exact ⟨ret_int HN.out.symm, HB1.out⟩
      · have HB := Lib.hid hb
        have HN := Lib.hid (show R = z by rw [hd.out, List.drop_of_length_le (by have := HLN.out; omega)]; rfl)
        clear hb hd
        go_wp2
        go_ret
        exact ⟨ret_int HN.out.symm, HB.out⟩
  · have HN := Lib.hid (show R = -1 by rw [← HR.out]; simp [szBks, hle])
    clear HR
    generalize hln : l.length = n at *
    go_enter Try.func15, Try.ntmps15
    go_wp2
    go_ret
    exact ⟨ret_int HN.out.symm, Below.refl _ _⟩

/-! ### Rows of blocks of the call's own -/
def oBk (w : World) (lo hi : Nat) (us : List Value) (x : Bk) : Prop := ∃ s t m, us = [.int .i64 x.b.n, s, t] ∧ lo ≤ m ∧ m ≤ hi ∧ OwC w lo m 2 1 s x.b.w.length (vI x.b.w) ∧ OwC w m hi 51 6 t x.e.length (vE x.e)
def OwBks (w : World) (lo hi : Nat) (v : Value) (l : List Bk) : Prop := OwN oBk 66 3 w lo hi v l
theorem oBk_rd {w : World} {lo hi : Nat} {us : List Value} {x : Bk} (h : oBk w lo hi us x) : RdBk w hi us x := by
  obtain ⟨s, t, m, h1, h2, h3, h4, h5⟩ := h
  exact ⟨s, t, h1, (RdI.of_own h4).more h3, RdS.of_own Ev.len h5⟩
theorem oBk_keep {w w' : World} {lo hi : Nat} (hk : ∀ g, lo ≤ g → g < hi → w'.heap[g]? = w.heap[g]?) (a b : Nat) (us : List Value) (x : Bk) (ha : lo ≤ a) (hb : b ≤ hi) (h : oBk w a b us x) : oBk w' a b us x := by
  obtain ⟨s, t, m, h1, h2, h3, h4, h5⟩ := h
  exact ⟨s, t, m, h1, h2, h3, h4.keep fun g hg0 hg1 => hk g (by omega) (by omega), h5.keep fun g hg0 hg1 => hk g (by omega) (by omega)⟩
theorem RdBks.of_own {w : World} {lo hi : Nat} {v : Value} {l : List Bk} (h : OwBks w lo hi v l) : RdBks w hi v l :=
  RdN.of_own (fun _ _ _ _ h => oBk_rd h) (fun _ _ us x hB h => RdBk.more hB us x h) (by decide) h
theorem OwBks.below {w w' : World} {lo hi : Nat} {v : Value} {l : List Bk} (h : OwBks w lo hi v l) (hb : Below hi w w') : OwBks w' lo hi v l :=
  OwN.keep (fun g _ hg => hb.block g hg) (fun a b us x ha hb' h => oBk_keep (fun g _ hg => hb.block g hg) a b us x ha hb' h) h
theorem OwBks.only {w w' : World} {lo hi a b : Nat} {v : Value} {l : List Bk} (h : OwBks w lo hi v l) (hw : Only a b w w') (hd : hi ≤ a ∨ b ≤ lo) (hs : hi ≤ w.heap.size) : OwBks w' lo hi v l :=
  OwN.keep (fun g h0 h1 => hw.block g (by omega) (by omega)) (fun a' b' us x ha hb' h => oBk_keep (fun g h0 h1 => hw.block g (by omega) (by omega)) a' b' us x ha hb' h) h

theorem info_bk : (Try.prog.info? 66).map (fun i => (i.zero, i.size, i.bytes)) = some (some (.agg #[.int .i64 0, .slice none 0 0, .slice none 0 0]), 3, 56) := by kernel_rfl
theorem rowIs_set3 {w : World} {b t n : Nat} {f : Nat → Value} (h : w.rowIs b t n f) (o : Nat) (u0 u1 u2 : Value) :
    (((w.setCell ⟨b, o, none⟩ u0).setCell ⟨b, o + 1, none⟩ u1).setCell ⟨b, o + 2, none⟩ u2).rowIs b t n (fun j => if j = o + 2 then u2 else if j = o + 1 then u1 else if j = o then u0 else f j) := ((h.set _ _).set _ _).set _ _
set_option maxHeartbeats 4000000 in
set_option maxRecDepth 100000 in
theorem toBlockS_any (v : Value) (l : List Bk) (w : World) (hl : RdBks w w.heap.size v l) (hf : FitB l) :
    Calls Try.prog 17 #[v] w fun e w' => ∃ v', e = .returned v' ∧ OwBks w' w.heap.size w'.heap.size v' l ∧ Below w.heap.size w w' := by
  obtain ⟨A, cp, rfl⟩ := hl.shape
  have hlen := hf.len
  have HLS := Lib.hid hf.all
  clear hf
  generalize hln : l.length = n at *
  have HL := Lib.hid hl
  have HLN := Lib.hid hln
  clear hl hln
  have hmk := fun W => run_make_rowsN (P := Try.prog) 39 66 _ 3 56 Try.underlying39 info_bk .i64 .i64 n (by omega) (by omega) W
  go_enter Try.func17, Try.ntmps17
  go_wp2
  clear hmk
  go_loopw [4] (fun i wr => ∃ (k : Nat) (f : Nat → Value) (c : Nat → Nat), k ≤ n ∧ i = .int .i64 k ∧ wr.rowIs w.heap.size 66 (n * 3) f ∧ Wins w.heap.size k c wr.heap.size ∧
    Hid (∀ j x, j < k → l[j]? = some x → oBk wr (c j) (c (j + 1)) ((List.range 3).map fun q => f (j * 3 + q)) x) ∧ Below w.heap.size w wr) (fun i _ => n - (intOf i).toNat)
  case atStart => exact ⟨0, _, fun _ => w.heap.size + 1, Nat.zero_le _, rfl, rowIs_madeN _ _ _ _, ⟨rfl, fun _ _ _ _ => Nat.le_refl _, by simp⟩, fun j x hj => absurd hj (by omega), (Below.refl _ _).alloc (Nat.le_refl _) _⟩
  case round =>
    rename_i wr
    obtain ⟨k, f, c, hk, rfl, hrow, hwin, hf, hb⟩ := hrel
    by_cases hlt : k < n
    · obtain ⟨b, off, x, A0, n0, c0, A1, n1, c1, rfl, hbb, hlk, hc, hs, ht⟩ := (RdBks.below HL.out hb).at_ hlt
      have HX := Lib.hid (HLS.out x (List.mem_of_getElem? hlk))
      obtain ⟨e0, e1, e2⟩ := hc.three
      have HV := Lib.hid (show RdBkV wr wr.heap.size (.agg #[.int .i64 x.b.n, .slice A0 n0 c0, .slice A1 n1 c1]) x from ⟨_, _, rfl, hs.more hb.size, ht.more hb.size⟩)
      have HB := Lib.hid hb
      have HR := Lib.hid hrow
      have Hl := Lib.hid hlk
      have HW := Lib.hid hwin
      clear hb hrow hlk hs ht hwin hc
      go_wp2_with fail
      refine (toBlock_any _ x _ HV.out (by have := HX.out; simp only [bkL] at this; omega) (by have := HX.out; simp only [bkL] at this; omega)).mono ?_
      rintro e w1 ⟨v1, rfl, ⟨s1, t1, m1, rfl, hm0, hm1, ho1, ho2⟩, hb1⟩
      have hrow := HR.out.of_block (hb1.block _ HR.out.lt)
      have d0 := hrow.cell (i := k * 3) (by omega)
      have d1 := hrow.cell (i := k * 3 + 1) (by omega)
      have d2 := hrow.cell (i := k * 3 + 2) (by omega)
      have g0 := fun i => hrow.frozen i
      obtain ⟨A2, c2, rfl, -⟩ := ho1.cells
      obtain ⟨A3, c3, rfl, -⟩ := ho2.cells
      have HO1 := Lib.hid ho1
      have HO2 := Lib.hid ho2
      have HB1 := Lib.hid hb1
      have HR1 := Lib.hid hrow
      clear ho1 ho2 hb1 hrow
      go_wp2
      have hw0 := HW.out.zero
      have hwt := HW.out.top
      have hwm := HW.out.mono
      have hsz := HB1.out.size
      have hgk := hwm 0 k (by omega) (Nat.le_refl _)
      refine ⟨⟨k + 1, _, _, by omega, by go_num, rowIs_set3 HR1.out _ _ _ _, (by have := HW.out.next hsz; simpa using this), fun j y hj hy => ?_, (((HB.out.trans (HB1.out.mono HB.out.size)).setCell (Nat.le_refl _) _).setCell (Nat.le_refl _) _).setCell (Nat.le_refl _) _⟩, by simp [intOf]; omega⟩
      have hon : ∀ u0 u1 u2, Only w.heap.size (w.heap.size + 1) w1 (((w1.setCell ⟨w.heap.size, k * 3, none⟩ u0).setCell ⟨w.heap.size, k * 3 + 1, none⟩ u1).setCell ⟨w.heap.size, k * 3 + 2, none⟩ u2) :=
        fun _ _ _ => (((Only.refl _ _ _).setCell (by simp) (by simp) _).setCell (by simp) (by simp) _).setCell (by simp) (by simp) _
      by_cases hjk : j = k
      · subst hjk
        have hxy : x = y := by have := Hl.out; rw [this] at hy; injection hy
        subst hxy
        have hk1 : ¬ j + 1 ≤ j := by omega
        simp only [Nat.le_refl, if_true, hk1, if_false]
        refine ⟨.slice A2 x.b.w.length c2, .slice A3 x.e.length c3, m1, by simp [show List.range 3 = [0, 1, 2] from rfl], by omega, by simpa using hm1, ?_, ?_⟩
        · exact (HO1.out.wide (by omega) (Nat.le_refl _)).only (hon _ _ _) (.inr (by omega)) (by omega)
        · exact (HO2.out.wide (Nat.le_refl _) (Nat.le_refl _)).only (hon _ _ _) (.inr (by omega)) (Nat.le_refl _)
      · have hjk1 : j ≤ k := by omega
        have hjk2 : j + 1 ≤ k := by omega
        simp only [hjk1, hjk2, if_true]
        have hmj := hwm (j + 1) k (by omega) (Nat.le_refl _)
        have h0j := hwm 0 j (by omega) (by omega)
        obtain ⟨s', t', m', h1, h2, h3, h4, h5⟩ := hf.out j y (by omega) hy
        refine ⟨s', t', m', ?_, h2, h3, (h4.below (HB1.out.mono (by omega))).only (hon _ _ _) (.inr (by omega)) (by omega), (h5.below (HB1.out.mono (by omega))).only (hon _ _ _) (.inr (by omega)) (by omega)⟩
        rw [← h1]
        refine List.map_congr_left fun q hq => ?_
        have hq3 : q < 3 := by simpa using hq
        rw [if_neg (by omega), if_neg (by omega), if_neg (by omega)]
    · have HB := Lib.hid hb
      have HR := Lib.hid hrow
      have HW := Lib.hid hwin
      clear hb hrow hwin
      go_wp2
      go_ret
      obtain rfl : k = n := by omega
      refine ⟨_, rfl, OwN.of_wins HLN.out HW.out HR.out (by unfold maxLen; omega) (fun j x hj hx => hf.out j x hj hx), HB.out⟩

set_option maxHeartbeats 2000000 in
set_option maxRecDepth 100000 in
theorem eqBlockS_same (v u : Value) (l : List Bk) (w : World) (hl : RdBks w w.heap.size v l) (hm : RdBks w w.heap.size u l) :
    Calls Try.prog 19 #[v, u] w fun x w' => x = .returned (.bool true) ∧ Below w.heap.size w w' := by
  obtain ⟨A, cp, rfl⟩ := RdN.shape hl
  obtain ⟨A', cp', rfl⟩ := RdN.shape hm
  have hbig := RdN.le hl
  have HL := Lib.hid hl
  have HM := Lib.hid hm
  clear hl hm
  generalize hln : l.length = n at *
  go_enter Try.func19, Try.ntmps19
  go_wp2
  go_loopw [5] (fun i wr => ∃ k : Nat, k ≤ n ∧ i = .int .i64 k ∧ Below w.heap.size w wr) (fun i _ => n - (intOf i).toNat)
  case atStart => exact ⟨0, Nat.zero_le _, rfl, Below.refl _ _⟩
  case round =>
    rename_i wr
    obtain ⟨k, hk, rfl, hb⟩ := hrel
    by_cases hlt : k < n
    · obtain ⟨b, off, x, A0, n0, c0, A1, n1, c1, rfl, hbb, hlk, hc, hs, ht⟩ := (RdBks.below HL.out hb).at_ hlt
      obtain ⟨b', off', x', A2, n2, c2, A3, n3, c3, rfl, hbb', hlk', hc', hp, hq⟩ := (RdBks.below HM.out hb).at_ hlt
      obtain rfl : x = x' := by rw [hlk] at hlk'; injection hlk'
      have HS := fun X => Lib.hid (show RdBkV (wgrow wr X) (wgrow wr X).heap.size (.agg #[.int .i64 x.b.n, .slice A0 n0 c0, .slice A1 n1 c1]) x from (RdBkV.more (RdBkV.below (⟨_, _, rfl, hs.more hb.size, ht.more hb.size⟩) (below_wgrow wr X)) (below_wgrow wr X).size))
      have HT := fun X => Lib.hid (show RdBkV (wgrow wr X) (wgrow wr X).heap.size (.agg #[.int .i64 x.b.n, .slice A2 n2 c2, .slice A3 n3 c3]) x from (RdBkV.more (RdBkV.below (⟨_, _, rfl, hp.more hb.size, hq.more hb.size⟩) (below_wgrow wr X)) (below_wgrow wr X).size))
      obtain ⟨e0, e1, e2⟩ := hc.grow3
      obtain ⟨f0, f1, f2⟩ := hc'.grow3
      have HB := Lib.hid hb
      clear hc hc' hlk hlk' hb hs ht hp hq
      have HQ := fun X => Lib.hid (by have := eqBlock_any _ _ x x _ (HS X).out (HT X).out; simpa only [decide_true] using this)
      clear HS HT
      go_wp2
      refine wp_region_grow (by kernel_rfl) (by kernel_rfl) ?_
      repeat (go_big_quiet_step ((go_at_call 44; exact calls_grow (HQ _).out)))
      refine wpQuiet_nil ?_
      intro w1 hb1
      have HB1 := HB.out.trans (hb1.mono HB.out.size)
      go_wp2
      exact ⟨⟨k + 1, by omega, by go_num, HB1⟩, by simp [intOf]; omega⟩
    · go_wp2
      go_ret
      exact ⟨rfl, hb⟩

section
variable {H : Type} {enc : TypeId × Value → H} {W : World}
set_option maxRecDepth 100000 in
theorem opens_evS : Opens enc Try.prog W 22 (fun v l => RdE W W.heap.size v l) := by
  intro n v y h
  obtain ⟨l, A, n', c, rfl, hn, hl, hh⟩ := opens_rdN (R := fun _ _ us (x : Ev) => us = x.cells) (sz := 6) Try.underlying22 (by kernel_rfl) (by decide) (by
    intro us n y hl h
    obtain ⟨hs, hf⟩ := opens_fields Try.underlying53 (by kernel_rfl) (by kernel_rfl) h
    obtain ⟨u0, q0, z0, g0, t0⟩ := hf 0 _ rfl
    obtain ⟨u1, q1, z1, g1, t1⟩ := hf 1 _ rfl
    obtain ⟨u2, q2, z2, g2, t2⟩ := hf 2 _ rfl
    obtain ⟨u3, q3, z3, g3, t3⟩ := hf 3 _ rfl
    obtain ⟨u4, q4, z4, g4, t4⟩ := hf 4 _ rfl
    obtain ⟨u5, q5, z5, g5, t5⟩ := hf 5 _ rfl
    obtain ⟨x0, rfl, _⟩ := opens_int (enc := enc) (W := W) (P := Try.prog) Try.underlying2 _ _ _ t0
    obtain ⟨x1, rfl, _⟩ := opens_int (enc := enc) (W := W) (P := Try.prog) Try.underlying2 _ _ _ t1
    obtain ⟨x2, rfl, _⟩ := opens_int (enc := enc) (W := W) (P := Try.prog) Try.underlying2 _ _ _ t2
    obtain ⟨x3, rfl, _⟩ := opens_int (enc := enc) (W := W) (P := Try.prog) Try.underlying2 _ _ _ t3
    obtain ⟨x4, rfl, _⟩ := opens_int (enc := enc) (W := W) (P := Try.prog) Try.underlying2 _ _ _ t4
    obtain ⟨x5, rfl, _⟩ := opens_int (enc := enc) (W := W) (P := Try.prog) Try.underlying2 _ _ _ t5
    match us, hl with
    | [a, b, c, d, e, f], _ =>
      simp at g0 g1 g2 g3 g4 g5
      exact ⟨⟨x0, x1, x2, x3, x4, x5⟩, by rw [g0, g1, g2, g3, g4, g5]⟩) _ _ _ h
  refine ⟨l, A, n', c, rfl, hn, hl, fun k hk => ?_⟩
  obtain ⟨b, off, x, us, h1, h2, h3, h4, h5, rfl⟩ := hh k hk
  exact ⟨b, off, x, h1, h2, h3, h5⟩
theorem opens_fld {P : Program} {e : TypeId} {fs : Array Field} {j sz : Nat} {f : Field} (he : P.underlying e = some (.struct fs)) (hj : fs[j]? = some f) (hs : P.cellsOf f.type = sz) {us : List Value} {n : Nat} {y : DataW H × List MemPlace}
    (h : DataW.trod enc P W 0 (fun _ => true) true n e us = some y) : ∃ q z, DataW.trod enc P W 0 (fun _ => true) true q f.type ((us.drop f.offset).take sz) = some z := by
  obtain ⟨ys, n', hn', hy, hlen, hyl, hf⟩ := DataW.trod_struct he h
  have h1 := hf j f hj
  rw [hs] at h1
  have hjl : j < fs.size := (Array.getElem?_eq_some_iff.1 hj).1
  have hys : ys[j]? = some (ys[j]'(by omega)) := List.getElem?_eq_getElem (by omega)
  exact ⟨_, _, h1.trans hys⟩
set_option maxRecDepth 100000 in
theorem opens_blk (us : List Value) (n : Nat) (y : DataW H × List MemPlace) (hl : us.length = 3) (h : DataW.trod enc Try.prog W 0 (fun _ => true) true n 64 us = some y) : ∃ x, RdBk W W.heap.size us x := by
  obtain ⟨q0, z0, t0⟩ := opens_fld (j := 0) (sz := 2) Try.underlying64 rfl (by kernel_rfl) h
  obtain ⟨q1, z1, t1⟩ := opens_fld (j := 1) (sz := 1) Try.underlying64 rfl (by kernel_rfl) h
  match us, hl with
  | [a, b, c], _ =>
    obtain ⟨hs, hf⟩ := opens_fields Try.underlying62 (by kernel_rfl) (by kernel_rfl) t0
    obtain ⟨u0, p0, w0, g0, s0⟩ := hf 0 _ rfl
    obtain ⟨u1, p1, w1, g1, s1⟩ := hf 1 _ rfl
    obtain ⟨m, rfl, _⟩ := opens_int (enc := enc) (W := W) (P := Try.prog) Try.underlying2 _ _ _ s0
    obtain ⟨l, hl, _⟩ := opens_ints (enc := enc) (W := W) (P := Try.prog) Try.underlying24 Try.underlying2 (by kernel_rfl) _ _ _ s1
    obtain ⟨e, he⟩ := opens_evS _ c _ t1
    simp at g0 g1
    subst g0 g1
    exact ⟨⟨⟨m, l⟩, e⟩, _, _, rfl, hl, he⟩
theorem open_blocks {base : Nat} {d : DataW H} {p : List MemPlace} {v : Value} (ho : Value.okWide Try.prog W .any base 36 v)
    (h : DataW.Trod enc Try.prog W 0 (fun _ => true) true 36 v d p) : ∃ l : List Bk, RdBks W W.heap.size v l ∧ True := by
  obtain ⟨l, hl⟩ := opens_arg (R := fun v l => RdBks W W.heap.size v l) Try.underlying36 (opens_rdN (R := RdBk) (sz := 3) Try.underlying36 (by kernel_rfl) (by decide) (fun us n y hl h => opens_blk us n y hl h)) ho h
  exact ⟨l, hl, trivial⟩
end

end Go.Proofs.Ytjhhbdehgklneaa
