/-
  Texts joined: OpenBr, Blk, BlkI, OpenEv, BlkS.
-/
import Derived.Test.YtccdnmafakaleaaGreatDoorNest
import Derived.Test.YtccdnmafakaleaaGreatDoorBraidE
import Derived.Test.YtccdnmafakaleaaGreatDoorBraid
import Derived.Test.YtccdnmafakaleaaGreatDoorSame
import Derived.Test.YtccdnmafakaleaaGreatDoorNst
import Derived.Test.YtccdnmafakaleaaGreatDoorOpen
import Derived.Test.YtccdnmafakaleaaGreatDoorEv
/-
  A braid that is an argument.
-/
namespace Go.Proofs.YtccdnmafakaleaaGreatDoor
set_option linter.unusedVariables false
set_option linter.unusedSimpArgs false
open Go.ChangeShapes Go.WideShapes Go.ChangeAt Go.RowKit Go.Deep

theorem szBr_pos' {left z : Int} {b : Br} (h : szBr left b = z) (hz : 0 ≤ z) : (b.w.length : Int) ≤ left ∧ z = left - b.w.length := szOf_pos' h hz

/-- A braid by value whose marked word is the caller's own. -/
def OmBr (w : World) (lo hi : Nat) (v : Value) (b : Br) (K : Int) : Prop := ∃ s, v = .agg #[.int .i64 b.n, s] ∧ OwC w lo hi 2 1 s b.w.length (vM K (b.w.length * 1))
theorem OmBr.below {w w' : World} {lo hi : Nat} {v : Value} {b : Br} {K : Int} (h : ∃ s, v = .agg #[.int .i64 b.n, s] ∧ OwC w lo hi 2 1 s b.w.length (vM K (b.w.length * 1))) (hb : Below hi w w') :
    ∃ s, v = .agg #[.int .i64 b.n, s] ∧ OwC w' lo hi 2 1 s b.w.length (vM K (b.w.length * 1)) := by
  obtain ⟨s, hv, ho⟩ := h
  exact ⟨s, hv, ho.below hb⟩
theorem braidL_len {b : Br} (h : b.w.length ≤ 1048576) : (braidL b).length ≤ 1048576 := by
  unfold braidL letsE
  split <;> simp
  exact h

end Go.Proofs.YtccdnmafakaleaaGreatDoor

/-
  A block: a braid and a list of stitches. Its size, its equality.
-/
namespace Go.Proofs.YtccdnmafakaleaaGreatDoor
set_option linter.unusedVariables false
set_option linter.unusedSimpArgs false
open Go.RowKit

structure Bk where
  b : Br
  e : List Ev
deriving DecidableEq
/-- A block by its value: the cells of a struct within a struct lie flat. -/
def RdBkV (w : World) (B : Nat) (v : Value) (x : Bk) : Prop := ∃ s t, v = .agg #[.int .i64 x.b.n, s, t] ∧ RdI w B s x.b.w ∧ RdE w B t x.e
/-- A block by its three cells. -/
def RdBk (w : World) (B : Nat) (us : List Value) (x : Bk) : Prop := ∃ s t, us = [.int .i64 x.b.n, s, t] ∧ RdI w B s x.b.w ∧ RdE w B t x.e
theorem RdBk.val {w : World} {B : Nat} {u0 u1 u2 : Value} {x : Bk} (h : RdBk w B [u0, u1, u2] x) : RdBkV w B (.agg #[u0, u1, u2]) x := by
  obtain ⟨s, t, e, h1, h2⟩ := h
  injection e with e0 e
  injection e with e1 e
  injection e with e2 e
  subst e0 e1 e2
  exact ⟨_, _, rfl, h1, h2⟩
theorem RdBkV.below {w w' : World} {B : Nat} {v : Value} {x : Bk} (h : RdBkV w B v x) (hb : Below B w w') : RdBkV w' B v x := by
  obtain ⟨s, t, e, h1, h2⟩ := h
  exact ⟨s, t, e, h1.below hb, h2.below hb⟩
theorem RdBkV.more {w : World} {B B' : Nat} {v : Value} {x : Bk} (h : RdBkV w B v x) (hB : B ≤ B') : RdBkV w B' v x := by
  obtain ⟨s, t, e, h1, h2⟩ := h
  exact ⟨s, t, e, h1.more hB, h2.more hB⟩
theorem RdE.shape' {w : World} {B : Nat} {v : Value} {l : List Ev} (h : RdE w B v l) : ∃ A n c, v = .slice A n c := by
  obtain ⟨A, n, c, rfl, _⟩ := h
  exact ⟨A, n, c, rfl⟩
/-- What is left of a size behind a block, or -1. -/
def szBk (left : Int) (x : Bk) : Int := if szBr left x.b < 0 then -1 else szOf (szBr left x.b) x.e.length



/-- A block of the call's own, by its value: the word's row lies below 'm', the stitches' row above. -/
def OwBkV (w : World) (lo hi : Nat) (v : Value) (x : Bk) : Prop := ∃ s t m, v = .agg #[.int .i64 x.b.n, s, t] ∧ lo ≤ m ∧ m ≤ hi ∧ OwC w lo m 2 1 s x.b.w.length (vI x.b.w) ∧ OwC w m hi 45 6 t x.e.length (vE x.e)


end Go.Proofs.YtccdnmafakaleaaGreatDoor

/-
  Words compared: slices.Equal at int64, spec.l00Same.
-/
namespace Go.Proofs.YtccdnmafakaleaaGreatDoor
set_option linter.unusedVariables false
set_option linter.unusedSimpArgs false
open Go.RowKit

/- as equalS, at slices of int64 -/
set_option maxHeartbeats 1000000 in
set_option maxRecDepth 100000 in
theorem eqlInts_any (v u : Value) (l m : List Int) (w : World) (B : Nat) (hl : RdI w B v l) (hm : RdI w B u m) (hB : B ≤ w.heap.size) :
    Calls Tryz.prog 64 #[v, u] w fun x w' => x = .returned (.bool (decide (l = m))) ∧ Below w.heap.size w w' := by
  obtain ⟨A, n, c, rfl, hln, hl, gl⟩ := hl
  obtain ⟨A', n', c', rfl, hmn, hm, gm⟩ := hm
  by_cases hlen : n = n'
  · subst hlen
    go_enter Tryz.func64, Tryz.ntmps64
    go_wp2
    go_loopw [5, 13] (fun _ i wr => ∃ k : Nat, k ≤ n ∧ i = .int .i64 k ∧ Hid (decide (l = m) = decide (l.drop k = m.drop k)) ∧ Below w.heap.size w wr) (fun _ i _ => n - (intOf i).toNat)
    case atStart => exact ⟨0, Nat.zero_le _, rfl, rfl, Below.refl _ _⟩
    case round =>
      rename_i wr
      obtain ⟨k, hk, rfl, hd, hb⟩ := hrel
      by_cases hlt : k < n
      · obtain ⟨b, off, x, rfl, hbb, hlk, hc⟩ := gl k hlt
        obtain ⟨b', off', y, rfl, hbb', hmk, hc'⟩ := gm k hlt
        have e0 := fun X => wgrow_cell (x := X) ((hb.cell (p := ⟨b, off + k, none⟩) (Nat.lt_of_lt_of_le hbb hB)).trans hc)
        have e1 := fun X => wgrow_cell (x := X) ((hb.cell (p := ⟨b', off' + k, none⟩) (Nat.lt_of_lt_of_le hbb' hB)).trans hc')
        have HB := Lib.hid hb
        have Hl := Lib.hid hlk
        have Hm := Lib.hid hmk
        clear hc hc' hlk hmk hb gl gm
        go_wp2
        refine wp_region_grow (by kernel_rfl) (by kernel_rfl) ?_
        repeat (go_big_quiet_step (fail))
        refine wpQuiet_nil ?_
        intro w1 hb1
        have HB1 := HB.out.trans (hb1.mono HB.out.size)
        go_wp2
        · go_ret
          exact ⟨ret_bool (by rw [hd.out, drop_of_get Hl.out, drop_of_get Hm.out]; simp_all), HB1⟩
        · exact ⟨⟨k + 1, by omega, by go_num, by unfold Hid; rw [hd.out, drop_of_get Hl.out, drop_of_get Hm.out]; simp_all, HB1⟩, by simp [intOf]; omega⟩
      · go_wp2
        go_ret
        exact ⟨ret_bool (by rw [hd.out, List.drop_of_length_le (by have := hl.out; omega), List.drop_of_length_le (by have := hm.out; omega)]; simp), hb⟩
  · have hd1 : ((n : Int) != (n' : Int)) = true := by simp; omega
    go_enter Tryz.func64, Tryz.ntmps64
    go_wp2
    go_ret
    exact ⟨ret_bool (by symm; simp; rintro rfl; exact hlen (hl.out.symm.trans hm.out)), Below.refl _ _⟩
/- as equalS, at slices of int64 -/
set_option maxHeartbeats 1000000 in
set_option maxRecDepth 100000 in
theorem specSame_any (v u : Value) (l m : List Int) (w : World) (B : Nat) (hl : RdI w B v l) (hm : RdI w B u m) (hB : B ≤ w.heap.size) :
    Calls Tryz.prog 79 #[v, u] w fun x w' => x = .returned (.bool (decide (l = m))) ∧ Below w.heap.size w w' := by
  obtain ⟨A, n, c, rfl, hln, hl, gl⟩ := hl
  obtain ⟨A', n', c', rfl, hmn, hm, gm⟩ := hm
  by_cases hlen : n = n'
  · subst hlen
    go_enter Tryz.func79, Tryz.ntmps79
    go_wp2
    go_loopw [5] (fun  i wr => ∃ k : Nat, k ≤ n ∧ i = .int .i64 k ∧ Hid (decide (l = m) = decide (l.drop k = m.drop k)) ∧ Below w.heap.size w wr) (fun  i _ => n - (intOf i).toNat)
    case atStart => exact ⟨0, Nat.zero_le _, rfl, rfl, Below.refl _ _⟩
    case round =>
      rename_i wr
      obtain ⟨k, hk, rfl, hd, hb⟩ := hrel
      by_cases hlt : k < n
      · obtain ⟨b, off, x, rfl, hbb, hlk, hc⟩ := gl k hlt
        obtain ⟨b', off', y, rfl, hbb', hmk, hc'⟩ := gm k hlt
        have e0 := fun X => wgrow_cell (x := X) ((hb.cell (p := ⟨b, off + k, none⟩) (Nat.lt_of_lt_of_le hbb hB)).trans hc)
        have e1 := fun X => wgrow_cell (x := X) ((hb.cell (p := ⟨b', off' + k, none⟩) (Nat.lt_of_lt_of_le hbb' hB)).trans hc')
        have HB := Lib.hid hb
        have Hl := Lib.hid hlk
        have Hm := Lib.hid hmk
        clear hc hc' hlk hmk hb gl gm
        go_wp2
        refine wp_region_grow (by kernel_rfl) (by kernel_rfl) ?_
        repeat (go_big_quiet_step (fail))
        refine wpQuiet_nil ?_
        intro w1 hb1
        have HB1 := HB.out.trans (hb1.mono HB.out.size)
        go_wp2
        · go_ret
          exact ⟨ret_bool (by rw [hd.out, drop_of_get Hl.out, drop_of_get Hm.out]; simp_all), HB1⟩
        · exact ⟨⟨k + 1, by omega, by go_num, by unfold Hid; rw [hd.out, drop_of_get Hl.out, drop_of_get Hm.out]; simp_all, HB1⟩, by simp [intOf]; omega⟩
      · go_wp2
        go_ret
        exact ⟨ret_bool (by rw [hd.out, List.drop_of_length_le (by have := hl.out; omega), List.drop_of_length_le (by have := hm.out; omega)]; simp), hb⟩
  · have hd1 : ((n : Int) != (n' : Int)) = true := by simp; omega
    go_enter Tryz.func79, Tryz.ntmps79
    go_wp2
    go_ret
    exact ⟨ret_bool (by symm; simp; rintro rfl; exact hlen (hl.out.symm.trans hm.out)), Below.refl _ _⟩



def RdBks (w : World) (B : Nat) (v : Value) (l : List Bk) : Prop := RdN RdBk 3 w B v l


end Go.Proofs.YtccdnmafakaleaaGreatDoor

/-
  An argument that is a slice of the laws' events, as what the walks are told of it.
-/
namespace Go.Proofs.YtccdnmafakaleaaGreatDoor
set_option linter.unusedVariables false
set_option linter.unusedSimpArgs false
open Go.ChangeShapes Go.WideShapes Go.ChangeAt Go.RowKit Go.Deep

def FitE (e : Ev) : Prop := Fit e.k ∧ Fit e.p ∧ Fit e.c ∧ Fit e.b ∧ Fit e.y ∧ Fit e.d

def evOf : List Int → Ev
  | [a, b, c, d, e, f] => ⟨a, b, c, d, e, f⟩
  | _ => ⟨0, 0, 0, 0, 0, 0⟩

set_option maxRecDepth 100000 in
theorem open_evs {H : Type} {enc : TypeId × Value → H} {W : World} {base : Nat} {d : DataW H} {p : List MemPlace} {v : Value} (ho : Value.okWide Tryz.prog W .any base 22 v)
    (h : DataW.Trod enc Tryz.prog W 0 (fun _ => true) true 22 v d p) : ∃ l, RdE W W.heap.size v l ∧ ∀ e ∈ l, FitE e := by
  obtain ⟨l, hr, hx⟩ := open_rdS (i := 2) Tryz.underlying22 Tryz.underlying47 (by kernel_rfl) (by kernel_rfl) (by decide) (by kernel_rfl) Tryz.underlying2 ho h
  refine ⟨l.map evOf, hr.map evOf (fun xs hxs => ?_), fun e he => ?_⟩
  · obtain ⟨h6, _⟩ := hx xs hxs
    match xs, h6 with
    | [a, b, c, d, e, f], _ => rfl
  · obtain ⟨xs, hxs, rfl⟩ := List.mem_map.1 he
    obtain ⟨h6, hf⟩ := hx xs hxs
    match xs, h6, hf with
    | [a, b, c, d, e, f], _, hf => exact ⟨hf a (by simp), hf b (by simp), hf c (by simp), hf d (by simp), hf e (by simp), hf f (by simp)⟩

end Go.Proofs.YtccdnmafakaleaaGreatDoor

/-
  Rows of blocks: how they are read, opened, copied, weighed, compared.
-/
namespace Go.Proofs.YtccdnmafakaleaaGreatDoor
set_option linter.unusedVariables false
set_option linter.unusedSimpArgs false
open Go.ChangeShapes Go.WideShapes Go.ChangeAt Go.RowKit Go.Deep

theorem RdBk.below {w w' : World} {B : Nat} (hb : Below B w w') (us : List Value) (x : Bk) (h : RdBk w B us x) : RdBk w' B us x := by
  obtain ⟨s, t, e, h1, h2⟩ := h
  exact ⟨s, t, e, h1.below hb, h2.below hb⟩
theorem RdBk.more {w : World} {B B' : Nat} (hB : B ≤ B') (us : List Value) (x : Bk) (h : RdBk w B us x) : RdBk w B' us x := by
  obtain ⟨s, t, e, h1, h2⟩ := h
  exact ⟨s, t, e, h1.more hB, h2.more hB⟩
theorem RdBks.below {w w' : World} {B : Nat} {v : Value} {l : List Bk} (h : RdBks w B v l) (hb : Below B w w') : RdBks w' B v l := RdN.below (RdBk.below hb) h hb
theorem RdBks.more {w : World} {B B' : Nat} {v : Value} {l : List Bk} (h : RdBks w B v l) (hB : B ≤ B') : RdBks w B' v l := RdN.more (RdBk.more hB) h hB
/-- One block of a row. -/
theorem RdBks.at_ {w : World} {B : Nat} {A : Option Addr} {n c : Nat} {l : List Bk} (h : RdBks w B (.slice A n c) l) {k : Nat} (hk : k < n) :
    ∃ b off x A0 n0 c0 A1 n1 c1, A = some ⟨b, off, none⟩ ∧ b < B ∧ l[k]? = some x ∧ CellsAt w b (off + k * 3) [.int .i64 x.b.n, .slice A0 n0 c0, .slice A1 n1 c1] ∧ RdI w B (.slice A0 n0 c0) x.b.w ∧ RdE w B (.slice A1 n1 c1) x.e := by
  obtain ⟨A', n', c', e, hn, hl, h⟩ := h
  injection e with e1 e2 e3
  subst e1 e2 e3
  obtain ⟨b, off, x, us, h1, h2, h3, h4, h5, s, t, rfl, h6, h7⟩ := h k hk
  obtain ⟨A0, n0, c0, rfl⟩ := h6.shape
  obtain ⟨A1, n1, c1, rfl⟩ := h7.shape'
  exact ⟨b, off, x, A0, n0, c0, A1, n1, c1, h1, h2, h3, h5, h6, h7⟩

/-! ### Sizes -/
abbrev bkL (x : Bk) : Nat := x.b.w.length + x.e.length
def szBks (left : Int) (l : List Bk) : Int := if (l.length : Int) ≤ left then szGo bkL (left - l.length) l else -1
theorem szBk_yes {z : Int} {x : Bk} (h : (bkL x : Int) ≤ z) : szBk z x = z - bkL x := by
  have h1 : szBr z x.b = z - x.b.w.length := by unfold szBr szOf; rw [if_pos (by simp only [bkL] at h; omega)]
  have h2 : ¬ (z - (x.b.w.length : Int) < 0) := by simp only [bkL] at h; omega
  unfold szBk
  rw [h1, if_neg h2]
  unfold szOf
  rw [if_pos (by simp only [bkL] at h; omega)]
  simp only [bkL]
  omega
theorem szBk_no {z : Int} {x : Bk} (h0 : 0 ≤ z) (h : ¬ (bkL x : Int) ≤ z) : szBk z x = -1 := by
  unfold szBk
  by_cases hw : (x.b.w.length : Int) ≤ z
  · have h1 : szBr z x.b = z - x.b.w.length := by unfold szBr szOf; rw [if_pos hw]
    rw [h1, if_neg (by omega)]
    unfold szOf
    rw [if_neg (by simp only [bkL] at h; omega)]
  · have h1 : szBr z x.b = -1 := by unfold szBr szOf; rw [if_neg hw]
    rw [h1, if_pos (by omega)]
theorem szBks_pos {left : Int} {l : List Bk} (h : ¬ szBks left l < 0) : szBks left l ≤ left ∧ (l.length : Int) ≤ left ∧ ∀ x ∈ l, (bkL x : Int) ≤ left := by
  unfold szBks at h ⊢
  split at h
  · rename_i hl
    rw [if_pos hl]
    obtain ⟨h1, h2⟩ := szGo_pos bkL l _ (Int.not_lt.1 h)
    exact ⟨by omega, hl, fun x hx => by have := h2 x hx; omega⟩
  · omega
theorem szGo_sum {α : Type} (f : α → Nat) : ∀ (l : List α) (z : Int), 0 ≤ szGo f z l → ((l.map f).sum : Int) ≤ z
  | [], z, h => by simpa [szGo] using h
  | x :: xs, z, h => by
    rw [szGo] at h
    split at h
    · have := szGo_sum f xs _ h
      simp only [List.map_cons, List.sum_cons, Int.natCast_add]
      omega
    · omega
/-- How many marks a block takes. -/
abbrev bkM (x : Bk) : Nat := 1 + x.b.w.length + x.e.length * 6
def bkSum (l : List Bk) : Nat := (l.map bkM).sum
theorem bkSum_le : ∀ (l : List Bk), bkSum l ≤ l.length + 6 * (l.map bkL).sum
  | [] => by simp [bkSum]
  | x :: xs => by
    have ih := bkSum_le xs
    unfold bkSum at ih ⊢
    simp only [List.map_cons, List.sum_cons, List.length_cons, bkM, bkL] at ih ⊢
    omega
/-- What fits: all lengths. -/
structure FitB (l : List Bk) : Prop where
  len : l.length ≤ 1048576
  all : ∀ x ∈ l, bkL x ≤ 1048576
  sum : bkSum l ≤ 7340032
theorem szBks_fit {left z : Int} {l : List Bk} (h : szBks left l = z) (hz : 0 ≤ z) (hl : left ≤ 1048576 := by omega) : FitB l ∧ z ≤ 1048576 := by
  subst h
  obtain ⟨h1, h2, h3⟩ := szBks_pos (Int.not_lt.2 hz)
  have h4 : ((l.map bkL).sum : Int) ≤ left - l.length := by
    unfold szBks at hz
    rw [if_pos h2] at hz
    exact szGo_sum bkL l _ hz
  have h5 := bkSum_le l
  exact ⟨⟨by omega, fun x hx => by have := h3 x hx; omega, by omega⟩, by omega⟩


/-! ### Rows of blocks of the call's own -/
def oBk (w : World) (lo hi : Nat) (us : List Value) (x : Bk) : Prop := ∃ s t m, us = [.int .i64 x.b.n, s, t] ∧ lo ≤ m ∧ m ≤ hi ∧ OwC w lo m 2 1 s x.b.w.length (vI x.b.w) ∧ OwC w m hi 45 6 t x.e.length (vE x.e)
def OwBks (w : World) (lo hi : Nat) (v : Value) (l : List Bk) : Prop := OwN oBk 41 3 w lo hi v l
theorem oBk_rd {w : World} {lo hi : Nat} {us : List Value} {x : Bk} (h : oBk w lo hi us x) : RdBk w hi us x := by
  obtain ⟨s, t, m, h1, h2, h3, h4, h5⟩ := h
  exact ⟨s, t, h1, (RdI.of_own h4).more h3, RdS.of_own Ev.len h5⟩
theorem oBk_keep {w w' : World} {lo hi : Nat} (hk : ∀ g, lo ≤ g → g < hi → w'.heap[g]? = w.heap[g]?) (a b : Nat) (us : List Value) (x : Bk) (ha : lo ≤ a) (hb : b ≤ hi) (h : oBk w a b us x) : oBk w' a b us x := by
  obtain ⟨s, t, m, h1, h2, h3, h4, h5⟩ := h
  exact ⟨s, t, m, h1, h2, h3, h4.keep fun g hg0 hg1 => hk g (by omega) (by omega), h5.keep fun g hg0 hg1 => hk g (by omega) (by omega)⟩
theorem RdBks.of_own {w : World} {lo hi : Nat} {v : Value} {l : List Bk} (h : OwBks w lo hi v l) : RdBks w hi v l :=
  RdN.of_own (fun _ _ _ _ h => oBk_rd h) (fun _ _ us x hB h => RdBk.more hB us x h) (by decide) h
theorem OwBks.below {w w' : World} {lo hi : Nat} {v : Value} {l : List Bk} (h : OwBks w lo hi v l) (hb : Below hi w w') : OwBks w' lo hi v l :=
  OwN.keep (fun g _ hg => hb.block g hg) (fun a b us x ha hb' h => oBk_keep (fun g _ hg => hb.block g hg) a b us x ha hb' h) h
theorem OwBks.only {w w' : World} {lo hi a b : Nat} {v : Value} {l : List Bk} (h : OwBks w lo hi v l) (hw : Only a b w w') (hd : hi ≤ a ∨ b ≤ lo) (hs : hi ≤ w.heap.size) : OwBks w' lo hi v l :=
  OwN.keep (fun g h0 h1 => hw.block g (by omega) (by omega)) (fun a' b' us x ha hb' h => oBk_keep (fun g h0 h1 => hw.block g (by omega) (by omega)) a' b' us x ha hb' h) h





end Go.Proofs.YtccdnmafakaleaaGreatDoor
