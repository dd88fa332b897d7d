/-
  Texts joined: Nfw, Rel, RelS, Let, ChE.
-/
import Derived.Test.YtiampiakhkpcbaaGar2
import Derived.Test.YtiampiakhkpcbaaCntI
import Derived.Test.YtiampiakhkpcbaaWords
import Derived.Test.YtiampiakhkpcbaaBraidE
/-
  The normal form of a word, and words that are equal as braids: plain.
-/
namespace Go.Proofs.Ytiampiakhkpcbaa
set_option linter.unusedVariables false
set_option linter.unusedSimpArgs false

open Classical in
/-- The normal form of a word. -/
noncomputable def nfw (n : Nat) (w : List Int) : St := if h : ∃ s, IsNF n w s then Classical.choose h else ⟨0, []⟩
theorem isNF_ex {n : Nat} {w : List Int} (h : LetsN n w) : ∃ s, IsNF n w s := by
  obtain ⟨a, F, hN⟩ := Nrm.exists_ (raw_on w h)
  exact ⟨⟨pow0 w + a, F⟩, a, hN, rfl⟩
theorem nfw_spec {n : Nat} {w : List Int} (h : LetsN n w) : IsNF n w (nfw n w) := by
  unfold nfw
  rw [dif_pos (isNF_ex h)]
  exact Classical.choose_spec (isNF_ex h)
theorem nfw_eq {n : Nat} {w : List Int} {s : St} (h : LetsN n w) (hs : IsNF n w s) : s = nfw n w := hs.uniq h (nfw_spec h)
theorem nfw_nil (n : Nat) : nfw n [] = ⟨0, []⟩ := (nfw_eq (fun k hk => by simp at hk) (isNF_nil n)).symm
open Classical in
/-- Are two words equal as braids? -/
noncomputable def eqW (n : Nat) (a b : List Int) : Bool := decide (nfw n a = nfw n b)
open Classical in
theorem eqW_iff {n : Nat} {a b : List Int} : eqW n a b = true ↔ nfw n a = nfw n b := by unfold eqW; exact decide_eq_true_iff
theorem LetsN.append {n : Nat} {a b : List Int} (ha : LetsN n a) (hb : LetsN n b) : LetsN n (a ++ b) := fun x hx => (List.mem_append.1 hx).elim (ha x) (hb x)
/-- What the reference asks of the normal form of one word and the other's inverse. -/
theorem eqW_triv {n : Nat} {a b : List Int} {s : St} (ha : LetsN n a) (hb : LetsN n b) (hs : IsNF n (a ++ invW b) s) : eqW n a b = (decide (s.p = 0) && decide (s.F.length = 0)) := by
  rw [Bool.eq_iff_iff, eqW_iff, ← nf_equal ha hb (nfw_spec ha) (nfw_spec hb) hs]
  simp only [Bool.and_eq_true, decide_eq_true_eq]
  constructor
  · rintro rfl; exact ⟨rfl, rfl⟩
  · rintro ⟨h1, h2⟩
    obtain ⟨p, F⟩ := s
    simp only at h1 h2
    rw [h1, List.eq_nil_of_length_eq_zero h2]

end Go.Proofs.Ytiampiakhkpcbaa

/-
  Words that are changed by relations of braids have the same normal form: plain.
-/
namespace Go.Proofs.Ytiampiakhkpcbaa
set_option linter.unusedVariables false
set_option linter.unusedSimpArgs false

/-! ### Letters as permutations -/
namespace Pm
def mul (x y : Pm) : Pm := ⟨fun i => y.f (x.f i), fun i => x.g (y.g i), fun i => by simp only [x.fg, y.fg], fun i => by simp only [y.gf, x.gf]⟩
theorem On.mul {n : Nat} {x y : Pm} (hx : On n x) (hy : On n y) : On n (mul x y) := fun i hi => by
  show y.f (x.f i) = i
  rw [hx i hi, hy i hi]
def tr (k : Nat) (hk : 1 ≤ k) : Pm := one.behind k hk
theorem on_tr {n k : Nat} (hk : 1 ≤ k) (hn : k < n) : On n (tr k hk) := (on_one n).behind hk hn
theorem tr_red {k l : Nat} (hk : 1 ≤ k) (hl : 1 ≤ l) (h : k ≠ l) : Red (tr k hk) (tr l hl) := fun a b hab => by
  rintro ⟨h1, h2⟩
  have h1' : sw l b < sw l a := h1
  have h2' : sw k b < sw k a := h2
  by_cases hc : a + 1 = l ∧ b = l
  · by_cases hd : a + 1 = k ∧ b = k
    · omega
    · have := sw_lt hab hd; omega
  · have := sw_lt hab hc; omega
theorem sw_far {k l : Nat} (hk : 1 ≤ k) (hl : 1 ≤ l) (h : k + 1 < l ∨ l + 1 < k) (i : Nat) : sw l (sw k i) = sw k (sw l i) := by
  unfold sw
  repeat' split
  all_goals omega
theorem sw_braid1 {k : Nat} (hk : 1 ≤ k) (i : Nat) : sw k (sw (k + 1) (sw k i)) = sw (k + 1) (sw k (sw (k + 1) i)) := by
  have a1 : sw k (k - 1) = k := sw_l hk
  have a2 : sw k k = k - 1 := sw_r k
  have a3 : sw k (k + 1) = k + 1 := sw_o (by omega) (by omega)
  have b1 : sw (k + 1) (k - 1) = k - 1 := sw_o (by omega) (by omega)
  have b2 : sw (k + 1) k = k + 1 := sw_l (k := k + 1) (by omega)
  have b3 : sw (k + 1) (k + 1) = k := sw_r (k + 1)
  by_cases h1 : i = k - 1
  · subst h1; rw [a1, b2, a3, b1, a1, b2]
  · by_cases h2 : i = k
    · subst h2; rw [a2, b1, a1, b2, a3, b3]
    · by_cases h3 : i = k + 1
      · subst h3; rw [a3, b3, a2, b1]
      · have c1 : sw k i = i := sw_o h2 (by omega)
        have c2 : sw (k + 1) i = i := sw_o h3 (by omega)
        rw [c1, c2, c1, c2]
theorem sw_braid {k l : Nat} (hk : 1 ≤ k) (hl : 1 ≤ l) (h : k + 1 = l ∨ l + 1 = k) (i : Nat) : sw k (sw l (sw k i)) = sw l (sw k (sw l i)) := by
  rcases h with rfl | rfl
  · exact sw_braid1 hk i
  · exact (sw_braid1 hl i).symm
theorem tr_far {k l : Nat} (hk : 1 ≤ k) (hl : 1 ≤ l) (h : k + 1 < l ∨ l + 1 < k) : mul (tr k hk) (tr l hl) = mul (tr l hl) (tr k hk) := ext' fun i => sw_far hk hl h i
theorem tr_braid {k l : Nat} (hk : 1 ≤ k) (hl : 1 ≤ l) (h : k + 1 = l ∨ l + 1 = k) : mul (mul (tr k hk) (tr l hl)) (tr k hk) = mul (mul (tr l hl) (tr k hk)) (tr l hl) := ext' fun i => sw_braid hk hl h i
theorem tr3_red {k l : Nat} (hk : 1 ≤ k) (hl : 1 ≤ l) (h : k + 1 = l ∨ l + 1 = k) : Red (mul (tr k hk) (tr l hl)) (tr k hk) := fun a b hab => by
  rintro ⟨h1, h2⟩
  have h1' : sw k b < sw k a := h1
  have h2' : sw k (sw l b) < sw k (sw l a) := h2
  by_cases hc : a + 1 = k ∧ b = k
  · obtain ⟨ha, rfl⟩ := hc
    obtain rfl : a = b - 1 := by omega
    revert h2'
    unfold sw
    repeat' split
    all_goals omega
  · have := sw_lt hab hc; omega
end Pm
open Pm

/-! ### A list of factors behind a state -/
def ActL (n : Nat) (s : St) (L : List Pm) (t : St) : Prop := ∃ a : Nat, Nrm n (s.F ++ L) a t.F ∧ t.p = s.p + a
theorem Nrm.rch {n : Nat} {L L' : List Pm} {a : Nat} {F : List Pm} (h : Rch n L L') (h' : Nrm n L' a F) : Nrm n L a F := by
  obtain ⟨b, r, s⟩ := h'.ex
  exact ⟨h'.good, b, h.trans r, s⟩
theorem ActL.rch {n : Nat} {s t : St} {L L' : List Pm} (h : Rch n L L') (h' : ActL n s L' t) : ActL n s L t := by
  obtain ⟨a, h1, h2⟩ := h'
  exact ⟨a, h1.rch (Rch.appL _ h), h2⟩
theorem ActL.uniq {n : Nat} (hn : 2 ≤ n) {s t t' : St} {L : List Pm} (hL : AllOn n (s.F ++ L)) (h : ActL n s L t) (h' : ActL n s L t') : t = t' := by
  obtain ⟨a, h1, e1⟩ := h
  obtain ⟨b, h2, e2⟩ := h'
  obtain ⟨ha, hF⟩ := h1.uniq hn hL h2
  obtain ⟨p, F⟩ := t
  obtain ⟨q, G⟩ := t'
  simp only at *
  rw [e1, e2, ha, hF]
theorem ActL.ex {n : Nat} {s : St} {L : List Pm} (hL : AllOn n (s.F ++ L)) : ∃ t, ActL n s L t := by
  obtain ⟨a, F, h⟩ := Nrm.exists_ hL
  exact ⟨⟨s.p + a, F⟩, a, h, rfl⟩
theorem ActL.snoc {n : Nat} {s u t : St} {L : List Pm} {k : Int} (hk : Ltr n k) (h0 : 0 < k) (h : ActL n s L u) (h' : Act n u k t) : ActL n s (L ++ [lets n k]) t := by
  obtain ⟨a, h1, e1⟩ := h
  obtain ⟨b, h2, e2⟩ := h'
  unfold flipK at h2
  unfold stepP at e2
  rw [if_pos h0] at h2 e2
  refine ⟨a + b, ?_, by rw [e2, e1]; omega⟩
  rw [← List.append_assoc]
  exact h1.snoc (lets_on hk) h2
theorem ActL.nil {n : Nat} {s : St} (hs : Val n s) : ActL n s [] s := by
  refine ⟨0, ⟨hs.good, 0, ?_, ?_⟩, by simp⟩
  · unfold nfm; simp; exact .refl
  · unfold nfm; simp; exact hs.sett
theorem ActL.letter {n : Nat} {s t : St} {k : Int} (hs : Val n s) (hk : Ltr n k) (h0 : 0 < k) (h : Act n s k t) : ActL n s [lets n k] t := by
  have := (ActL.nil hs).snoc hk h0 h
  simpa using this
theorem ActL.two {n : Nat} {s t : St} {x y : Int} (hs : Val n s) (hx : Ltr n x) (hy : Ltr n y) (x0 : 0 < x) (y0 : 0 < y) (h : ActW n s [x, y] t) : ActL n s [lets n x, lets n y] t := by
  obtain ⟨u, h1, v, h2, rfl⟩ := h
  exact (ActL.letter hs hx x0 h1).snoc hy y0 h2
theorem ActL.three {n : Nat} {s t : St} {x y z : Int} (hs : Val n s) (hx : Ltr n x) (hy : Ltr n y) (hz : Ltr n z) (x0 : 0 < x) (y0 : 0 < y) (z0 : 0 < z) (h : ActW n s [x, y, z] t) : ActL n s [lets n x, lets n y, lets n z] t := by
  obtain ⟨u, h1, v, h2, w, h3, rfl⟩ := h
  exact ((ActL.letter hs hx x0 h1).snoc hy y0 h2).snoc hz z0 h3

/-! ### Words that act alike -/
theorem ActW.uniq {n : Nat} : ∀ {w : List Int} {s t t' : St}, LetsN n w → Val n s → ActW n s w t → ActW n s w t' → t = t'
  | [], _, _, _, _, _, h, h' => by cases h; cases h'; rfl
  | k :: w, s, t, t', hw, hs, h, h' => by
    obtain ⟨u, h1, h2⟩ := h
    obtain ⟨u', h3, h4⟩ := h'
    have hk := hw k (by simp)
    obtain rfl := h1.uniq hk hs.on h3
    exact ActW.uniq (fun x hx => hw x (List.mem_cons_of_mem _ hx)) (h1.val hk hs.on) h2 h4
theorem ActW.app {n : Nat} : ∀ {a : List Int} {b : List Int} {s u t : St}, ActW n s a u → ActW n u b t → ActW n s (a ++ b) t
  | [], _, _, _, _, h, h' => by cases h; exact h'
  | k :: a, _, _, _, _, ⟨x, h1, h2⟩, h' => ⟨x, h1, h2.app h'⟩
/-- Two words act alike on all states. -/
def Alike (n : Nat) (u v : List Int) : Prop := ∀ s t, Val n s → (ActW n s u t ↔ ActW n s v t)
theorem alike_of {n : Nat} {u v : List Int} (hu : LetsN n u) (hv : LetsN n v) (h : ∀ s t, Val n s → ActW n s u t → ActW n s v t) : Alike n u v := fun s t hs => ⟨h s t hs, fun h1 => by
  obtain ⟨t', h2⟩ := ActW.ex u hu hs
  obtain rfl := ActW.uniq hv hs h1 (h s t' hs h2)
  exact h2⟩
theorem Alike.symm {n : Nat} {u v : List Int} (h : Alike n u v) : Alike n v u := fun s t hs => (h s t hs).symm
theorem lets1 {n : Nat} {x : Int} (hx : Ltr n x) : LetsN n [x] := fun k hk => by simp at hk; subst hk; exact hx
theorem lets2 {n : Nat} {x y : Int} (hx : Ltr n x) (hy : Ltr n y) : LetsN n [x, y] := fun k hk => by
  simp at hk
  rcases hk with rfl | rfl
  · exact hx
  · exact hy
theorem lets3 {n : Nat} {x y z : Int} (hx : Ltr n x) (hy : Ltr n y) (hz : Ltr n z) : LetsN n [x, y, z] := fun k hk => by
  simp at hk
  rcases hk with rfl | rfl | rfl
  · exact hx
  · exact hy
  · exact hz
theorem Ltr.neg {n : Nat} {x : Int} (h : Ltr n x) : Ltr n (-x) := ⟨by have := h.1; omega, by have := h.2; omega⟩
theorem Act.back {n : Nat} {s t : St} {x : Int} (hx : Ltr n x) (hs : Val n s) (h : Act n s x t) : Act n t (-x) s := by
  obtain ⟨u, hu⟩ := Act.ex hx.neg (h.val hx hs.on).on
  obtain rfl := h.cancel hx hs hu
  exact hu
theorem Act.back' {n : Nat} {s t : St} {x : Int} (hx : Ltr n x) (hs : Val n s) (h : Act n s (-x) t) : Act n t x s := by
  have := h.back hx.neg hs
  rwa [Int.neg_neg] at this
theorem alike_canc {n : Nat} {x : Int} (hx : Ltr n x) : Alike n [x, -x] [] :=
  alike_of (lets2 hx hx.neg) (fun k hk => by simp at hk) fun s t hs h => by
    obtain ⟨u, h1, v, h2, rfl⟩ := h
    exact (h1.cancel hx hs h2).symm
theorem ActW.back {n : Nat} {s t : St} {w : List Int} (hw : LetsN n w) (hs : Val n s) (h : ActW n s w t) : ActW n t (invW w) s := by
  obtain ⟨u, hu⟩ := ActW.ex (invW w) hw.inv (h.val hw hs)
  obtain rfl := h.cancel hw hs hu
  exact hu
theorem Alike.inv {n : Nat} {u v : List Int} (hu : LetsN n u) (hv : LetsN n v) (h : Alike n u v) : Alike n (invW u) (invW v) :=
  alike_of hu.inv hv.inv fun s t hs h1 => by
    have h2 := h1.back hu.inv hs
    rw [invW_invW] at h2
    have h3 := h1.val hu.inv hs
    exact ((h t s h3).1 h2).back hv h3
/-- Two letters that commute: so does one with the other's inverse. -/
theorem alike_comm_neg {n : Nat} {x z : Int} (hx : Ltr n x) (hz : Ltr n z) (h : Alike n [x, z] [z, x]) : Alike n [x, -z] [-z, x] :=
  alike_of (lets2 hx hz.neg) (lets2 hz.neg hx) fun s t hs h1 => by
    obtain ⟨u, h2, v, h3, rfl⟩ := h1
    obtain ⟨u', h4⟩ := Act.ex hz.neg hs.on
    have vu := h2.val hx hs.on
    have vu' := h4.val hz.neg hs.on
    have h5 := h4.back' hz hs
    have h6 : ActW n u' [z, x] u := ⟨s, h5, u, h2, rfl⟩
    obtain ⟨q, h7, r, h8, rfl⟩ := (h u' u vu').2 h6
    have vq := h7.val hx vu'.on
    obtain rfl := (h8.back hz vq).uniq hz.neg vu.on h3
    exact ⟨u', h4, q, h7, rfl⟩
theorem lets_tr {n : Nat} {k : Int} (h : 0 < k) : lets n k = tr k.natAbs (by omega) := lets_pos h
theorem two_le {n : Nat} {x : Int} (h : Ltr n x) : 2 ≤ n := by have := h.1; have := h.2; omega
theorem alike_far_pp {n : Nat} {x y : Int} (hx : Ltr n x) (hy : Ltr n y) (x0 : 0 < x) (y0 : 0 < y) (h : x.natAbs + 1 < y.natAbs ∨ y.natAbs + 1 < x.natAbs) : Alike n [x, y] [y, x] :=
  alike_of (lets2 hx hy) (lets2 hy hx) fun s t hs h1 => by
    obtain ⟨t', h2⟩ := ActW.ex [y, x] (lets2 hy hx) hs
    have k1 := ActL.two hs hx hy x0 y0 h1
    have k2 := ActL.two hs hy hx y0 x0 h2
    have ox := on_tr (n := n) (k := x.natAbs) (by omega) hx.2
    have oy := on_tr (n := n) (k := y.natAbs) (by omega) hy.2
    rw [lets_tr x0, lets_tr y0] at k1 k2
    have r1 := rch_red (n := n) ((AllOn.one ox).append (AllOn.one oy)) (tr_red (by omega) (by omega) (by omega)) (z := mul (tr x.natAbs (by omega)) (tr y.natAbs (by omega))) (fun i => rfl)
    have r2 := rch_red (n := n) ((AllOn.one oy).append (AllOn.one ox)) (tr_red (by omega) (by omega) (by omega)) (z := mul (tr y.natAbs (by omega)) (tr x.natAbs (by omega))) (fun i => rfl)
    rw [tr_far (by omega) (by omega) (by omega)] at r2
    have hz : AllOn n (s.F ++ [mul (tr x.natAbs (by omega)) (tr y.natAbs (by omega)), one]) := hs.on.append ((AllOn.one (ox.mul oy)).append (AllOn.one (on_one n)))
    obtain ⟨q, hq⟩ := ActL.ex hz
    have e1 := ActL.uniq (two_le hx) (hs.on.append ((AllOn.one ox).append (AllOn.one oy))) k1 (ActL.rch r1 hq)
    have e2 := ActL.uniq (two_le hx) (hs.on.append ((AllOn.one oy).append (AllOn.one ox))) k2 (ActL.rch r2 hq)
    rw [e1, ← e2]
    exact h2
theorem rch_three {n k l : Nat} (hk : 1 ≤ k) (hl : 1 ≤ l) (hkn : k < n) (hln : l < n) (h : k + 1 = l ∨ l + 1 = k) : Rch n [tr k hk, tr l hl, tr k hk] [mul (mul (tr k hk) (tr l hl)) (tr k hk), one, one] := by
  have ok := on_tr (n := n) hk hkn
  have ol := on_tr (n := n) hl hln
  have r1 := (rch_red (n := n) ((AllOn.one ok).append (AllOn.one ol)) (tr_red hk hl (by omega)) (z := mul (tr k hk) (tr l hl)) (fun i => rfl)).appR [tr k hk]
  have r2 := Rch.appL [mul (tr k hk) (tr l hl)] (rch_one (n := n) ok)
  have r3 := (rch_red (n := n) ((AllOn.one (ok.mul ol)).append (AllOn.one ok)) (tr3_red hk hl h) (z := mul (mul (tr k hk) (tr l hl)) (tr k hk)) (fun i => rfl)).appR [one]
  exact (r1.trans r2).trans r3
theorem alike_braid_pp {n : Nat} {x y : Int} (hx : Ltr n x) (hy : Ltr n y) (x0 : 0 < x) (y0 : 0 < y) (h : x.natAbs + 1 = y.natAbs ∨ y.natAbs + 1 = x.natAbs) : Alike n [x, y, x] [y, x, y] :=
  alike_of (lets3 hx hy hx) (lets3 hy hx hy) fun s t hs h1 => by
    obtain ⟨t', h2⟩ := ActW.ex [y, x, y] (lets3 hy hx hy) hs
    have k1 := ActL.three hs hx hy hx x0 y0 x0 h1
    have k2 := ActL.three hs hy hx hy y0 x0 y0 h2
    have ox := on_tr (n := n) (k := x.natAbs) (by omega) hx.2
    have oy := on_tr (n := n) (k := y.natAbs) (by omega) hy.2
    rw [lets_tr x0, lets_tr y0] at k1 k2
    have r1 := rch_three (n := n) (k := x.natAbs) (l := y.natAbs) (by omega) (by omega) hx.2 hy.2 h
    have r2 := rch_three (n := n) (k := y.natAbs) (l := x.natAbs) (by omega) (by omega) hy.2 hx.2 (by omega)
    rw [tr_braid (k := y.natAbs) (l := x.natAbs) (by omega) (by omega) (by omega)] at r2
    have hz : AllOn n (s.F ++ [mul (mul (tr x.natAbs (by omega)) (tr y.natAbs (by omega))) (tr x.natAbs (by omega)), one, one]) := hs.on.append ((AllOn.one ((ox.mul oy).mul ox)).append ((AllOn.one (on_one n)).append (AllOn.one (on_one n))))
    obtain ⟨q, hq⟩ := ActL.ex hz
    have e1 := ActL.uniq (two_le hx) (hs.on.append ((AllOn.one ox).append ((AllOn.one oy).append (AllOn.one ox)))) k1 (ActL.rch r1 hq)
    have e2 := ActL.uniq (two_le hx) (hs.on.append ((AllOn.one oy).append ((AllOn.one ox).append (AllOn.one oy)))) k2 (ActL.rch r2 hq)
    rw [e1, ← e2]
    exact h2
theorem alike_far {n : Nat} {x y : Int} (hx : Ltr n x) (hy : Ltr n y) (h : x.natAbs + 1 < y.natAbs ∨ y.natAbs + 1 < x.natAbs) : Alike n [x, y] [y, x] := by
  have pn : ∀ {x y : Int}, Ltr n x → Ltr n y → 0 < x → y < 0 → (x.natAbs + 1 < y.natAbs ∨ y.natAbs + 1 < x.natAbs) → Alike n [x, y] [y, x] := fun {x y} hx hy x0 y0 h => by
    have h1 := alike_comm_neg hx hy.neg (alike_far_pp hx hy.neg x0 (by omega) (by omega))
    rwa [Int.neg_neg] at h1
  have x1 := hx.1
  have y1 := hy.1
  rcases Int.lt_trichotomy x 0 with x0 | x0 | x0
  · rcases Int.lt_trichotomy y 0 with y0 | y0 | y0
    · have h1 := alike_comm_neg hx hy.neg (pn hy.neg hx (by omega) x0 (by omega)).symm
      rwa [Int.neg_neg] at h1
    · exact absurd y0 y1
    · exact (pn hy hx y0 x0 (by omega)).symm
  · exact absurd x0 x1
  · rcases Int.lt_trichotomy y 0 with y0 | y0 | y0
    · exact pn hx hy x0 y0 h
    · exact absurd y0 y1
    · exact alike_far_pp hx hy x0 y0 h
theorem alike_braid {n : Nat} {x y : Int} (hx : Ltr n x) (hy : Ltr n y) (hs : 0 < x ∧ 0 < y ∨ x < 0 ∧ y < 0) (h : x.natAbs + 1 = y.natAbs ∨ y.natAbs + 1 = x.natAbs) : Alike n [x, y, x] [y, x, y] := by
  rcases hs with ⟨x0, y0⟩ | ⟨x0, y0⟩
  · exact alike_braid_pp hx hy x0 y0 h
  · have h1 := (alike_braid_pp hx.neg hy.neg (by omega) (by omega) (by omega)).inv (lets3 hx.neg hy.neg hx.neg) (lets3 hy.neg hx.neg hy.neg)
    simpa [invW] using h1
theorem Alike.app {n : Nat} {u v : List Int} (h : Alike n u v) (a b : List Int) (ha : LetsN n a) : Alike n (a ++ (u ++ b)) (a ++ (v ++ b)) := fun s t hs => by
  constructor
  · intro h1
    obtain ⟨x, h2, h3⟩ := h1.append
    obtain ⟨y, h4, h5⟩ := h3.append
    exact h2.app (((h x y (h2.val ha hs)).1 h4).app h5)
  · intro h1
    obtain ⟨x, h2, h3⟩ := h1.append
    obtain ⟨y, h4, h5⟩ := h3.append
    exact h2.app (((h x y (h2.val ha hs)).2 h4).app h5)

/-! ### Relations -/
/-- Words of which one is made of the other by relations. -/
inductive Rel (n : Nat) : List Int → List Int → Prop
  | refl (u : List Int) : Rel n u u
  | symm {u v : List Int} (h : Rel n u v) : Rel n v u
  | trans {u v w : List Int} (h : Rel n u v) (k : Rel n v w) : Rel n u w
  | app {u v : List Int} (h : Rel n u v) (a b : List Int) : Rel n (a ++ (u ++ b)) (a ++ (v ++ b))
  | canc {x : Int} (hx : Ltr n x) : Rel n [x, -x] []
  | far {x y : Int} (hx : Ltr n x) (hy : Ltr n y) (h : x.natAbs + 1 < y.natAbs ∨ y.natAbs + 1 < x.natAbs) : Rel n [x, y] [y, x]
  | braid {x y : Int} (hx : Ltr n x) (hy : Ltr n y) (hs : 0 < x ∧ 0 < y ∨ x < 0 ∧ y < 0) (h : x.natAbs + 1 = y.natAbs ∨ y.natAbs + 1 = x.natAbs) : Rel n [x, y, x] [y, x, y]
theorem letsN_app {n : Nat} {a b : List Int} : LetsN n (a ++ b) ↔ LetsN n a ∧ LetsN n b :=
  ⟨fun h => ⟨fun x hx => h x (List.mem_append_left _ hx), fun x hx => h x (List.mem_append_right _ hx)⟩, fun h => h.1.append h.2⟩
theorem Rel.lets {n : Nat} {u v : List Int} (h : Rel n u v) : LetsN n u ↔ LetsN n v := by
  induction h with
  | refl u => exact Iff.rfl
  | symm _ ih => exact ih.symm
  | trans _ _ i1 i2 => exact i1.trans i2
  | app _ a b ih => rw [letsN_app, letsN_app, letsN_app, letsN_app, ih]
  | canc hx => exact ⟨fun _ k hk => by simp at hk, fun _ => lets2 hx hx.neg⟩
  | far hx hy _ => exact ⟨fun _ => lets2 hy hx, fun _ => lets2 hx hy⟩
  | braid hx hy _ _ => exact ⟨fun _ => lets3 hy hx hy, fun _ => lets3 hx hy hx⟩
theorem Rel.alike {n : Nat} {u v : List Int} (h : Rel n u v) : LetsN n u → Alike n u v := by
  induction h with
  | refl u => exact fun _ s t _ => Iff.rfl
  | symm h ih => exact fun hl => (ih (h.lets.2 hl)).symm
  | trans h k i1 i2 => exact fun hl s t hs => (i1 hl s t hs).trans (i2 (h.lets.1 hl) s t hs)
  | app h a b ih =>
    intro hl
    rw [letsN_app, letsN_app] at hl
    exact (ih hl.2.1).app a b hl.1
  | canc hx => exact fun _ => alike_canc hx
  | far hx hy h => exact fun _ => alike_far hx hy h
  | braid hx hy hs h => exact fun _ => alike_braid hx hy hs h
theorem Rel.nfw {n : Nat} {u v : List Int} (h : Rel n u v) (hu : LetsN n u) : nfw n u = nfw n v := by
  have hv := h.lets.1 hu
  have h1 := (nfw_spec hu).from_nil hu
  have h2 := (nfw_spec hv).from_nil hv
  exact ActW.uniq hv (val_nil n) ((h.alike hu _ _ (val_nil n)).1 h1) h2
theorem Rel.left {n : Nat} {u v : List Int} (h : Rel n u v) (a : List Int) : Rel n (a ++ u) (a ++ v) := by
  have := h.app a []
  simpa using this
theorem Rel.right {n : Nat} {u v : List Int} (h : Rel n u v) (b : List Int) : Rel n (u ++ b) (v ++ b) := h.app [] b
theorem Rel.both {n : Nat} {u v u' v' : List Int} (h : Rel n u v) (h' : Rel n u' v') : Rel n (u ++ u') (v ++ v') := (h.right u').trans (h'.left v)

/-! ### In a mirror -/
/-- A letter in a mirror, where there are n strands. -/
def mirX (n : Nat) (k : Int) : Int := if 0 < k then k - n else k + n
theorem mirX_ltr {n : Nat} {k : Int} (h : Ltr n k) : Ltr n (mirX n k) := by
  obtain ⟨h1, h2⟩ := h
  unfold mirX
  split <;> constructor <;> omega
theorem mirX_neg {n : Nat} {k : Int} (h : k ≠ 0) : mirX n (-k) = -mirX n k := by
  unfold mirX
  split <;> split <;> omega
theorem Rel.mir {n : Nat} {u v : List Int} (h : Rel n u v) : Rel n (u.map (mirX n)) (v.map (mirX n)) := by
  induction h with
  | refl u => exact .refl _
  | symm _ ih => exact ih.symm
  | trans _ _ i1 i2 => exact i1.trans i2
  | app _ a b ih =>
    simp only [List.map_append]
    exact ih.app _ _
  | @canc x hx =>
    have h1 := Rel.canc (mirX_ltr hx)
    rw [← mirX_neg hx.1] at h1
    exact h1
  | @far x y hx hy h =>
    refine Rel.far (mirX_ltr hx) (mirX_ltr hy) ?_
    obtain ⟨x1, x2⟩ := hx
    obtain ⟨y1, y2⟩ := hy
    unfold mirX
    split <;> split <;> omega
  | @braid x y hx hy hs h =>
    refine Rel.braid (mirX_ltr hx) (mirX_ltr hy) ?_ ?_
    all_goals
      obtain ⟨x1, x2⟩ := hx
      obtain ⟨y1, y2⟩ := hy
      unfold mirX
      split <;> split <;> omega

end Go.Proofs.Ytiampiakhkpcbaa

/-
  The relations that l04Relate takes: a letter and its inverse put in, far letters swapped, the braid relation (plain).
-/
namespace Go.Proofs.Ytiampiakhkpcbaa
set_option linter.unusedVariables false
set_option linter.unusedSimpArgs false

theorem rel_ins {n : Nat} {x : Int} (hx : Ltr n x) (w : List Int) (k : Nat) : Rel n w (w.take k ++ (x :: -x :: w.drop k)) := by
  have h := (Rel.canc hx).symm.app (w.take k) (w.drop k)
  have e : w.take k ++ ([] ++ w.drop k) = w := by simp
  rw [e] at h
  simpa using h
theorem cut_two {w : List Int} {k : Nat} {a b : Int} (h0 : w[k]? = some a) (h1 : w[k + 1]? = some b) : ∃ u v, w = u ++ a :: b :: v ∧ u.length = k := by
  obtain ⟨hk, e0⟩ := List.getElem?_eq_some_iff.1 h0
  obtain ⟨hk1, e1⟩ := List.getElem?_eq_some_iff.1 h1
  refine ⟨w.take k, w.drop (k + 2), ?_, by simp; omega⟩
  rw [← e0, ← e1, ← List.drop_eq_getElem_cons, ← List.drop_eq_getElem_cons, List.take_append_drop]
theorem set_at {u v : List Int} {a c : Int} {k : Nat} (hk : u.length = k) : (u ++ a :: v).set k c = u ++ c :: v := by
  subst hk
  simp
theorem rel_swap {n : Nat} {w : List Int} {k : Nat} {a b : Int} (hw : LetsN n w) (h0 : w[k]? = some a) (h1 : w[k + 1]? = some b) (hf : ¬ (-1 ≤ (a.natAbs : Int) - b.natAbs ∧ (a.natAbs : Int) - b.natAbs ≤ 1)) : Rel n w ((w.set k b).set (k + 1) a) := by
  have ha := hw a (List.mem_of_getElem? h0)
  have hb := hw b (List.mem_of_getElem? h1)
  obtain ⟨u, v, rfl, hk⟩ := cut_two h0 h1
  rw [set_at hk, show u ++ b :: b :: v = (u ++ [b]) ++ b :: v by simp, set_at (by simp [hk])]
  have h := (Rel.far ha hb (by omega)).app u v
  simpa using h
theorem rel_brd {n : Nat} {w : List Int} {k : Nat} {a b : Int} (hw : LetsN n w) (h0 : w[k]? = some a) (h1 : w[k + 1]? = some b) (h2 : w[k + 2]? = some a) (hp : 0 < a * b) (hd : a - b = 1 ∨ b - a = 1) : Rel n w (((w.set k b).set (k + 1) a).set (k + 2) b) := by
  have ha := hw a (List.mem_of_getElem? h0)
  have hb := hw b (List.mem_of_getElem? h1)
  have hs : 0 < a ∧ 0 < b ∨ a < 0 ∧ b < 0 := by
    rcases Int.lt_trichotomy a 0 with h | h | h
    · rcases Int.lt_trichotomy b 0 with h' | h' | h'
      · exact .inr ⟨h, h'⟩
      · subst h'; simp at hp
      · have := Int.mul_neg_of_neg_of_pos h h'; omega
    · subst h; simp at hp
    · rcases Int.lt_trichotomy b 0 with h' | h' | h'
      · have := Int.mul_neg_of_pos_of_neg h h'; omega
      · subst h'; simp at hp
      · exact .inl ⟨h, h'⟩
  obtain ⟨u, v, rfl, hk⟩ := cut_two h0 h1
  obtain ⟨v', rfl⟩ : ∃ v', v = a :: v' := by
    have h3 : (u ++ a :: b :: v)[k + 2]? = v[0]? := by
      rw [List.getElem?_append_right (by omega), hk, show k + 2 - k = 2 by omega]
      rfl
    rw [h3] at h2
    cases v with
    | nil => simp at h2
    | cons y v' => simp at h2; subst h2; exact ⟨v', rfl⟩
  rw [set_at hk, show u ++ b :: b :: a :: v' = (u ++ [b]) ++ b :: a :: v' by simp, set_at (by simp [hk]), show (u ++ [b]) ++ a :: a :: v' = (u ++ [b, a]) ++ a :: v' by simp, set_at (by simp [hk])]
  have h := (Rel.braid ha hb hs (by omega)).app u v'
  simpa using h

end Go.Proofs.Ytiampiakhkpcbaa

/-
  Crossings as letters; what the counting of events says of each (plain).
-/
namespace Go.Proofs.Ytiampiakhkpcbaa
set_option linter.unusedVariables false
set_option linter.unusedSimpArgs false
open Go.RowKit

/-- The letter of a crossing. -/
def letX (e : Ev) : Int := e.c * (e.p + 1)
theorem LetsN.snoc {n : Nat} {w : List Int} {x : Int} (h : LetsN n w) (hx : Ltr n x) : LetsN n (w ++ [x]) := fun y hy => (List.mem_append.1 hy).elim (h y) (fun e => by simp at e; exact e ▸ hx)
theorem LetsN.nil (n : Nat) : LetsN n [] := fun y hy => by simp at hy
theorem letE_ltr {n : Int} {x : Ev} (h1 : n ≤ 12) (h : valE n x = true) (hk : x.k = 1) : Ltr n.toNat (letX x) ∧ 0 ≤ x.p ∧ x.p ≤ 10 ∧ (x.c = 1 ∨ x.c = -1) := by
  unfold valE at h
  simp [hk] at h
  obtain ⟨h2, h3, h4, h5⟩ := h
  refine ⟨?_, h2, by omega, h4⟩
  unfold letX
  rcases h4 with h4 | h4 <;> rw [h4] <;> constructor <;> omega
theorem letX_rng {n : Int} {e : Ev} (h1 : n ≤ 12) (h : valE n e = true) (hk : e.k = 1) : IntKind.i64.wrap (e.p + 1) = e.p + 1 ∧ IntKind.i64.wrap (e.c * (e.p + 1)) = letX e := by
  obtain ⟨h2, h3, h4, h5⟩ := letE_ltr h1 h hk
  unfold letX
  refine ⟨IntWalk.i64_in _ (by omega), ?_⟩
  rcases h5 with h5 | h5 <;> rw [h5] <;> exact IntWalk.i64_in _ (by omega)
/-- Where the counting goes through, the next event is valid. -/
theorem cnt_at {l : List Ev} {k : Nat} {m : Int} {x : Ev} (h : (cntE m (l.drop k)).isSome = true) (hx : l[k]? = some x) : valE m x = true ∧ aftE m x ≤ 12 ∧ (cntE (aftE m x) (l.drop (k + 1))).isSome = true := by
  rw [drop_of_get hx, cntE] at h
  by_cases hv : valE m x = true ∧ aftE m x ≤ 12
  · rw [if_pos hv] at h
    exact ⟨hv.1, hv.2, h⟩
  · rw [if_neg hv] at h
    simp at h
theorem okEvs_cnt' {l : List Ev} (h : okEvs l = true) : (cntE 0 (l.drop 0)).isSome = true ∧ l.length ≤ 2000 := by
  unfold okEvs at h
  simp at h
  exact ⟨by simpa using h.1, h.2⟩

end Go.Proofs.Ytiampiakhkpcbaa

/-
  Events whose braids between the stitches are changed by relations (plain).
-/
namespace Go.Proofs.Ytiampiakhkpcbaa
set_option linter.unusedVariables false
set_option linter.unusedSimpArgs false
open Go.RowKit

theorem letX_letE {k : Int} (h : k ≠ 0) : letX (letE k) = k := by
  unfold letX letE
  split <;> simp <;> omega
theorem letsE_letX {n : Nat} {w : List Int} (h : LetsN n w) : (letsE w).map letX = w := by
  unfold letsE
  rw [List.map_map]
  conv => rhs; rw [← List.map_id w]
  exact List.map_congr_left fun k hk => letX_letE (h k hk).1
theorem letsE_k (w : List Int) : ∀ e ∈ letsE w, e.k = 1 := fun e he => by
  obtain ⟨k, _, rfl⟩ := List.mem_map.1 he
  rfl
theorem letE_val {n : Int} {k : Int} (h0 : 0 ≤ n) (h : Ltr n.toNat k) : valE n (letE k) = true := by
  obtain ⟨h1, h2⟩ := h
  unfold valE letE
  split <;> simp <;> omega
theorem aft_cross {n : Int} {e : Ev} (h : e.k = 1) : aftE n e = n := by simp [aftE, h]
theorem cnt_letsE {n : Int} (h0 : 0 ≤ n) (h1 : n ≤ 12) : ∀ (w : List Int) (r : List Ev), LetsN n.toNat w → cntE n (letsE w ++ r) = cntE n r
  | [], r, _ => rfl
  | k :: w, r, h => by
    show cntE n (letE k :: (letsE w ++ r)) = _
    have ha : aftE n (letE k) = n := aft_cross rfl
    rw [cntE, if_pos ⟨letE_val h0 (h k (by simp)), by rw [ha]; exact h1⟩, ha]
    exact cnt_letsE h0 h1 w r fun x hx => h x (List.mem_cons_of_mem _ hx)
/-- Crossings ahead of other events. -/
theorem cnt_cross {n : Int} (h1 : n ≤ 12) : ∀ (u r : List Ev), (∀ e ∈ u, e.k = 1) → (cntE n (u ++ r)).isSome = true → LetsN n.toNat (u.map letX) ∧ cntE n (u ++ r) = cntE n r
  | [], r, _, h => ⟨LetsN.nil _, rfl⟩
  | e :: u, r, hu, h => by
    have he := hu e (by simp)
    obtain ⟨hv, ha, hc⟩ := cnt_at (l := e :: (u ++ r)) (k := 0) (x := e) (by simpa using h) rfl
    have e1 := aft_cross (n := n) he
    rw [e1] at hc ha
    obtain ⟨h2, h3⟩ := cnt_cross h1 u r (fun x hx => hu x (List.mem_cons_of_mem _ hx)) (by simpa using hc)
    refine ⟨fun x hx => ?_, ?_⟩
    · rw [List.map_cons, List.mem_cons] at hx
      rcases hx with rfl | hx
      · exact (letE_ltr h1 hv he).1
      · exact h2 x hx
    · show cntE n (e :: (u ++ r)) = _
      rw [cntE, if_pos ⟨hv, by rw [e1]; exact ha⟩, e1]
      exact h3
/-- Events whose braids between the stitches are changed by relations. -/
inductive ChE : Int → List Ev → List Ev → Prop
  | fin {n : Int} {u : List Ev} {w : List Int} (hu : ∀ e ∈ u, e.k = 1) (h : Rel n.toNat (u.map letX) w) : ChE n u (letsE w)
  | step {n : Int} {u a b : List Ev} {w : List Int} {e : Ev} (hu : ∀ e ∈ u, e.k = 1) (h : Rel n.toNat (u.map letX) w) (he : e.k ≠ 1) (t : ChE (aftE n e) a b) : ChE n (u ++ e :: a) (letsE w ++ e :: b)
theorem ChE.cnt {n : Int} {a b : List Ev} (h : ChE n a b) : 0 ≤ n → n ≤ 12 → (cntE n a).isSome = true → cntE n b = cntE n a := by
  induction h with
  | @fin n u w hu h =>
    intro h0 h1 hc
    obtain ⟨h2, h3⟩ := cnt_cross h1 u [] hu (by simpa using hc)
    have h4 := cnt_letsE h0 h1 w [] (h.lets.1 h2)
    simp only [List.append_nil] at h3 h4
    rw [h4, h3]
  | @step n u a b w e hu h he t ih =>
    intro h0 h1 hc
    obtain ⟨h2, h3⟩ := cnt_cross h1 u (e :: a) hu hc
    rw [h3, cnt_letsE h0 h1 w _ (h.lets.1 h2)]
    rw [h3] at hc
    obtain ⟨hv, ha, hc'⟩ := cnt_at (l := e :: a) (k := 0) (x := e) (by simpa using hc) rfl
    rw [cntE, cntE, if_pos ⟨hv, ha⟩, if_pos ⟨hv, ha⟩]
    exact ih (aft_bounds h0 h1 hv).1 ha (by simpa using hc')

end Go.Proofs.Ytiampiakhkpcbaa
