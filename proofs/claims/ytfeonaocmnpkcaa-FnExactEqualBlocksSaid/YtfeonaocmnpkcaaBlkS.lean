/-
  Rows of blocks: how they are read, opened, copied, weighed, compared.
-/
import Derived.Test.YtfeonaocmnpkcaaBlkI
import Derived.Test.YtfeonaocmnpkcaaOpenEv
namespace Go.Proofs.Ytfeonaocmnpkcaa
set_option linter.unusedVariables false
set_option linter.unusedSimpArgs false
open Go.ChangeShapes Go.WideShapes Go.ChangeAt Go.RowKit Go.Deep

theorem RdBk.below {w w' : World} {B : Nat} (hb : Below B w w') (us : List Value) (x : Bk) (h : RdBk w B us x) : RdBk w' B us x := by
  obtain ⟨s, t, e, h1, h2⟩ := h
  exact ⟨s, t, e, h1.below hb, h2.below hb⟩
theorem RdBk.more {w : World} {B B' : Nat} (hB : B ≤ B') (us : List Value) (x : Bk) (h : RdBk w B us x) : RdBk w B' us x := by
  obtain ⟨s, t, e, h1, h2⟩ := h
  exact ⟨s, t, e, h1.more hB, h2.more hB⟩
theorem RdBks.below {w w' : World} {B : Nat} {v : Value} {l : List Bk} (h : RdBks w B v l) (hb : Below B w w') : RdBks w' B v l := RdN.below (RdBk.below hb) h hb
theorem RdBks.more {w : World} {B B' : Nat} {v : Value} {l : List Bk} (h : RdBks w B v l) (hB : B ≤ B') : RdBks w B' v l := RdN.more (RdBk.more hB) h hB
/-- One block of a row. -/
theorem RdBks.at_ {w : World} {B : Nat} {A : Option Addr} {n c : Nat} {l : List Bk} (h : RdBks w B (.slice A n c) l) {k : Nat} (hk : k < n) :
    ∃ b off x A0 n0 c0 A1 n1 c1, A = some ⟨b, off, none⟩ ∧ b < B ∧ l[k]? = some x ∧ CellsAt w b (off + k * 3) [.int .i64 x.b.n, .slice A0 n0 c0, .slice A1 n1 c1] ∧ RdI w B (.slice A0 n0 c0) x.b.w ∧ RdE w B (.slice A1 n1 c1) x.e := by
  obtain ⟨A', n', c', e, hn, hl, h⟩ := h
  injection e with e1 e2 e3
  subst e1 e2 e3
  obtain ⟨b, off, x, us, h1, h2, h3, h4, h5, s, t, rfl, h6, h7⟩ := h k hk
  obtain ⟨A0, n0, c0, rfl⟩ := h6.shape
  obtain ⟨A1, n1, c1, rfl⟩ := h7.shape'
  exact ⟨b, off, x, A0, n0, c0, A1, n1, c1, h1, h2, h3, h5, h6, h7⟩

/-! ### Sizes -/
abbrev bkL (x : Bk) : Nat := x.b.w.length + x.e.length
def szBks (left : Int) (l : List Bk) : Int := if (l.length : Int) ≤ left then szGo bkL (left - l.length) l else -1
theorem szBk_yes {z : Int} {x : Bk} (h : (bkL x : Int) ≤ z) : szBk z x = z - bkL x := by
  have h1 : szBr z x.b = z - x.b.w.length := by unfold szBr szOf; rw [if_pos (by simp only [bkL] at h; omega)]
  have h2 : ¬ (z - (x.b.w.length : Int) < 0) := by simp only [bkL] at h; omega
  unfold szBk
  rw [h1, if_neg h2]
  unfold szOf
  rw [if_pos (by simp only [bkL] at h; omega)]
  simp only [bkL]
  omega
theorem szBk_no {z : Int} {x : Bk} (h0 : 0 ≤ z) (h : ¬ (bkL x : Int) ≤ z) : szBk z x = -1 := by
  unfold szBk
  by_cases hw : (x.b.w.length : Int) ≤ z
  · have h1 : szBr z x.b = z - x.b.w.length := by unfold szBr szOf; rw [if_pos hw]
    rw [h1, if_neg (by omega)]
    unfold szOf
    rw [if_neg (by simp only [bkL] at h; omega)]
  · have h1 : szBr z x.b = -1 := by unfold szBr szOf; rw [if_neg hw]
    rw [h1, if_pos (by omega)]
theorem szBks_pos {left : Int} {l : List Bk} (h : ¬ szBks left l < 0) : szBks left l ≤ left ∧ (l.length : Int) ≤ left ∧ ∀ x ∈ l, (bkL x : Int) ≤ left := by
  unfold szBks at h ⊢
  split at h
  · rename_i hl
    rw [if_pos hl]
    obtain ⟨h1, h2⟩ := szGo_pos bkL l _ (Int.not_lt.1 h)
    exact ⟨by omega, hl, fun x hx => by have := h2 x hx; omega⟩
  · omega
theorem szGo_sum {α : Type} (f : α → Nat) : ∀ (l : List α) (z : Int), 0 ≤ szGo f z l → ((l.map f).sum : Int) ≤ z
  | [], z, h => by simpa [szGo] using h
  | x :: xs, z, h => by
    rw [szGo] at h
    split at h
    · have := szGo_sum f xs _ h
      simp only [List.map_cons, List.sum_cons, Int.natCast_add]
      omega
    · omega
/-- How many marks a block takes. -/
abbrev bkM (x : Bk) : Nat := 1 + x.b.w.length + x.e.length * 6
def bkSum (l : List Bk) : Nat := (l.map bkM).sum
theorem bkSum_le : ∀ (l : List Bk), bkSum l ≤ l.length + 6 * (l.map bkL).sum
  | [] => by simp [bkSum]
  | x :: xs => by
    have ih := bkSum_le xs
    unfold bkSum at ih ⊢
    simp only [List.map_cons, List.sum_cons, List.length_cons, bkM, bkL] at ih ⊢
    omega
/-- What fits: all lengths. -/
structure FitB (l : List Bk) : Prop where
  len : l.length ≤ 1048576
  all : ∀ x ∈ l, bkL x ≤ 1048576
  sum : bkSum l ≤ 7340032
theorem szBks_fit {left z : Int} {l : List Bk} (h : szBks left l = z) (hz : 0 ≤ z) (hl : left ≤ 1048576 := by omega) : FitB l ∧ z ≤ 1048576 := by
  subst h
  obtain ⟨h1, h2, h3⟩ := szBks_pos (Int.not_lt.2 hz)
  have h4 : ((l.map bkL).sum : Int) ≤ left - l.length := by
    unfold szBks at hz
    rw [if_pos h2] at hz
    exact szGo_sum bkL l _ hz
  have h5 := bkSum_le l
  exact ⟨⟨by omega, fun x hx => by have := h3 x hx; omega, by omega⟩, by omega⟩


/-! ### Rows of blocks of the call's own -/
def oBk (w : World) (lo hi : Nat) (us : List Value) (x : Bk) : Prop := ∃ s t m, us = [.int .i64 x.b.n, s, t] ∧ lo ≤ m ∧ m ≤ hi ∧ OwC w lo m 2 1 s x.b.w.length (vI x.b.w) ∧ OwC w m hi 61 6 t x.e.length (vE x.e)
def OwBks (w : World) (lo hi : Nat) (v : Value) (l : List Bk) : Prop := OwN oBk 33 3 w lo hi v l
theorem oBk_rd {w : World} {lo hi : Nat} {us : List Value} {x : Bk} (h : oBk w lo hi us x) : RdBk w hi us x := by
  obtain ⟨s, t, m, h1, h2, h3, h4, h5⟩ := h
  exact ⟨s, t, h1, (RdI.of_own h4).more h3, RdS.of_own Ev.len h5⟩
theorem oBk_keep {w w' : World} {lo hi : Nat} (hk : ∀ g, lo ≤ g → g < hi → w'.heap[g]? = w.heap[g]?) (a b : Nat) (us : List Value) (x : Bk) (ha : lo ≤ a) (hb : b ≤ hi) (h : oBk w a b us x) : oBk w' a b us x := by
  obtain ⟨s, t, m, h1, h2, h3, h4, h5⟩ := h
  exact ⟨s, t, m, h1, h2, h3, h4.keep fun g hg0 hg1 => hk g (by omega) (by omega), h5.keep fun g hg0 hg1 => hk g (by omega) (by omega)⟩
theorem RdBks.of_own {w : World} {lo hi : Nat} {v : Value} {l : List Bk} (h : OwBks w lo hi v l) : RdBks w hi v l :=
  RdN.of_own (fun _ _ _ _ h => oBk_rd h) (fun _ _ us x hB h => RdBk.more hB us x h) (by decide) h
theorem OwBks.below {w w' : World} {lo hi : Nat} {v : Value} {l : List Bk} (h : OwBks w lo hi v l) (hb : Below hi w w') : OwBks w' lo hi v l :=
  OwN.keep (fun g _ hg => hb.block g hg) (fun a b us x ha hb' h => oBk_keep (fun g _ hg => hb.block g hg) a b us x ha hb' h) h
theorem OwBks.only {w w' : World} {lo hi a b : Nat} {v : Value} {l : List Bk} (h : OwBks w lo hi v l) (hw : Only a b w w') (hd : hi ≤ a ∨ b ≤ lo) (hs : hi ≤ w.heap.size) : OwBks w' lo hi v l :=
  OwN.keep (fun g h0 h1 => hw.block g (by omega) (by omega)) (fun a' b' us x ha hb' h => oBk_keep (fun g h0 h1 => hw.block g (by omega) (by omega)) a' b' us x ha hb' h) h


set_option maxHeartbeats 2000000 in
set_option maxRecDepth 100000 in
theorem eqBlockS_same (v u : Value) (l : List Bk) (w : World) (hl : RdBks w w.heap.size v l) (hm : RdBks w w.heap.size u l) :
    Calls Try.prog 17 #[v, u] w fun x w' => x = .returned (.bool true) ∧ Below w.heap.size w w' := by
  obtain ⟨A, cp, rfl⟩ := RdN.shape hl
  obtain ⟨A', cp', rfl⟩ := RdN.shape hm
  have hbig := RdN.le hl
  have HL := Lib.hid hl
  have HM := Lib.hid hm
  clear hl hm
  generalize hln : l.length = n at *
  go_enter Try.func17, Try.ntmps17
  go_wp2
  go_loopw [5] (fun i wr => ∃ k : Nat, k ≤ n ∧ i = .int .i64 k ∧ Below w.heap.size w wr) (fun i _ => n - (intOf i).toNat)
  case atStart => exact ⟨0, Nat.zero_le _, rfl, Below.refl _ _⟩
  case round =>
    rename_i wr
    obtain ⟨k, hk, rfl, hb⟩ := hrel
    by_cases hlt : k < n
    · obtain ⟨b, off, x, A0, n0, c0, A1, n1, c1, rfl, hbb, hlk, hc, hs, ht⟩ := (RdBks.below HL.out hb).at_ hlt
      obtain ⟨b', off', x', A2, n2, c2, A3, n3, c3, rfl, hbb', hlk', hc', hp, hq⟩ := (RdBks.below HM.out hb).at_ hlt
      obtain rfl : x = x' := by rw [hlk] at hlk'; injection hlk'
      have HS := fun X => Lib.hid (show RdBkV (wgrow wr X) (wgrow wr X).heap.size (.agg #[.int .i64 x.b.n, .slice A0 n0 c0, .slice A1 n1 c1]) x from (RdBkV.more (RdBkV.below (⟨_, _, rfl, hs.more hb.size, ht.more hb.size⟩) (below_wgrow wr X)) (below_wgrow wr X).size))
      have HT := fun X => Lib.hid (show RdBkV (wgrow wr X) (wgrow wr X).heap.size (.agg #[.int .i64 x.b.n, .slice A2 n2 c2, .slice A3 n3 c3]) x from (RdBkV.more (RdBkV.below (⟨_, _, rfl, hp.more hb.size, hq.more hb.size⟩) (below_wgrow wr X)) (below_wgrow wr X).size))
      obtain ⟨e0, e1, e2⟩ := hc.grow3
      obtain ⟨f0, f1, f2⟩ := hc'.grow3
      have HB := Lib.hid hb
      clear hc hc' hlk hlk' hb hs ht hp hq
      have HQ := fun X => Lib.hid (by have := eqBlock_any _ _ x x _ (HS X).out (HT X).out; simpa only [decide_true] using this)
      clear HS HT
      go_wp2
      refine wp_region_grow (by kernel_rfl) (by kernel_rfl) ?_
      repeat (go_big_quiet_step ((go_at_call 12; exact calls_grow (HQ _).out)))
      refine wpQuiet_nil ?_
      intro w1 hb1
      have HB1 := HB.out.trans (hb1.mono HB.out.size)
      go_wp2
      exact ⟨⟨k + 1, by omega, by go_num, HB1⟩, by simp [intOf]; omega⟩
    · go_wp2
      go_ret
      exact ⟨rfl, hb⟩

section
variable {H : Type} {enc : TypeId × Value → H} {W : World}
set_option maxRecDepth 100000 in
theorem opens_evS : Opens enc Try.prog W 25 (fun v l => RdE W W.heap.size v l) := by
  intro n v y h
  obtain ⟨l, A, n', c, rfl, hn, hl, hh⟩ := opens_rdN (R := fun _ _ us (x : Ev) => us = x.cells) (sz := 6) Try.underlying25 (by kernel_rfl) (by decide) (by
    intro us n y hl h
    obtain ⟨hs, hf⟩ := opens_fields Try.underlying65 (by kernel_rfl) (by kernel_rfl) h
    obtain ⟨u0, q0, z0, g0, t0⟩ := hf 0 _ rfl
    obtain ⟨u1, q1, z1, g1, t1⟩ := hf 1 _ rfl
    obtain ⟨u2, q2, z2, g2, t2⟩ := hf 2 _ rfl
    obtain ⟨u3, q3, z3, g3, t3⟩ := hf 3 _ rfl
    obtain ⟨u4, q4, z4, g4, t4⟩ := hf 4 _ rfl
    obtain ⟨u5, q5, z5, g5, t5⟩ := hf 5 _ rfl
    obtain ⟨x0, rfl, _⟩ := opens_int (enc := enc) (W := W) (P := Try.prog) Try.underlying2 _ _ _ t0
    obtain ⟨x1, rfl, _⟩ := opens_int (enc := enc) (W := W) (P := Try.prog) Try.underlying2 _ _ _ t1
    obtain ⟨x2, rfl, _⟩ := opens_int (enc := enc) (W := W) (P := Try.prog) Try.underlying2 _ _ _ t2
    obtain ⟨x3, rfl, _⟩ := opens_int (enc := enc) (W := W) (P := Try.prog) Try.underlying2 _ _ _ t3
    obtain ⟨x4, rfl, _⟩ := opens_int (enc := enc) (W := W) (P := Try.prog) Try.underlying2 _ _ _ t4
    obtain ⟨x5, rfl, _⟩ := opens_int (enc := enc) (W := W) (P := Try.prog) Try.underlying2 _ _ _ t5
    match us, hl with
    | [a, b, c, d, e, f], _ =>
      simp at g0 g1 g2 g3 g4 g5
      exact ⟨⟨x0, x1, x2, x3, x4, x5⟩, by rw [g0, g1, g2, g3, g4, g5]⟩) _ _ _ h
  refine ⟨l, A, n', c, rfl, hn, hl, fun k hk => ?_⟩
  obtain ⟨b, off, x, us, h1, h2, h3, h4, h5, rfl⟩ := hh k hk
  exact ⟨b, off, x, h1, h2, h3, h5⟩
theorem opens_fld {P : Program} {e : TypeId} {fs : Array Field} {j sz : Nat} {f : Field} (he : P.underlying e = some (.struct fs)) (hj : fs[j]? = some f) (hs : P.cellsOf f.type = sz) {us : List Value} {n : Nat} {y : DataW H × List MemPlace}
    (h : DataW.trod enc P W 0 (fun _ => true) true n e us = some y) : ∃ q z, DataW.trod enc P W 0 (fun _ => true) true q f.type ((us.drop f.offset).take sz) = some z := by
  obtain ⟨ys, n', hn', hy, hlen, hyl, hf⟩ := DataW.trod_struct he h
  have h1 := hf j f hj
  rw [hs] at h1
  have hjl : j < fs.size := (Array.getElem?_eq_some_iff.1 hj).1
  have hys : ys[j]? = some (ys[j]'(by omega)) := List.getElem?_eq_getElem (by omega)
  exact ⟨_, _, h1.trans hys⟩
set_option maxRecDepth 100000 in
theorem opens_blk (us : List Value) (n : Nat) (y : DataW H × List MemPlace) (hl : us.length = 3) (h : DataW.trod enc Try.prog W 0 (fun _ => true) true n 27 us = some y) : ∃ x, RdBk W W.heap.size us x := by
  obtain ⟨q0, z0, t0⟩ := opens_fld (j := 0) (sz := 2) Try.underlying27 rfl (by kernel_rfl) h
  obtain ⟨q1, z1, t1⟩ := opens_fld (j := 1) (sz := 1) Try.underlying27 rfl (by kernel_rfl) h
  match us, hl with
  | [a, b, c], _ =>
    obtain ⟨hs, hf⟩ := opens_fields Try.underlying24 (by kernel_rfl) (by kernel_rfl) t0
    obtain ⟨u0, p0, w0, g0, s0⟩ := hf 0 _ rfl
    obtain ⟨u1, p1, w1, g1, s1⟩ := hf 1 _ rfl
    obtain ⟨m, rfl, _⟩ := opens_int (enc := enc) (W := W) (P := Try.prog) Try.underlying2 _ _ _ s0
    obtain ⟨l, hl, _⟩ := opens_ints (enc := enc) (W := W) (P := Try.prog) Try.underlying22 Try.underlying2 (by kernel_rfl) _ _ _ s1
    obtain ⟨e, he⟩ := opens_evS _ c _ t1
    simp at g0 g1
    subst g0 g1
    exact ⟨⟨⟨m, l⟩, e⟩, _, _, rfl, hl, he⟩
end


end Go.Proofs.Ytfeonaocmnpkcaa
