/-
  Texts joined: GarJ, Off, GarK, GarM.
-/
import Derived.Test.YtccdnmafakaleaaGreatDoorPk1
import Derived.Test.YtccdnmafakaleaaGreatDoorPk3
import Derived.Deep.LoopGhost
import Derived.Test.YtccdnmafakaleaaGreatDoorAppend
import Derived.Test.YtccdnmafakaleaaGreatDoorPk2
import Derived.Deep.Cut
import Derived.Deep.CutRange
/-
  Letters moved in place, of the program: weigh.
-/
namespace Go.Proofs.YtccdnmafakaleaaGreatDoor
set_option linter.unusedVariables false
set_option linter.unusedSimpArgs false
open Go.RowKit

/-- Only blocks of which S holds, and new ones, are other than before. -/
structure Tch (S : Nat → Prop) (w w' : World) : Prop where
  os : w'.os = w.os
  tape : w'.tape = w.tape
  output : w'.output = w.output
  size : w.heap.size ≤ w'.heap.size
  block : ∀ k, k < w.heap.size → ¬ S k → w'.heap[k]? = w.heap[k]?
theorem Tch.refl (S : Nat → Prop) (w : World) : Tch S w w := ⟨rfl, rfl, rfl, Nat.le_refl _, fun _ _ _ => rfl⟩
theorem Tch.trans {S : Nat → Prop} {a b c : World} (h : Tch S a b) (k : Tch S b c) : Tch S a c :=
  ⟨k.os.trans h.os, k.tape.trans h.tape, k.output.trans h.output, Nat.le_trans h.size k.size, fun g hg hS => (k.block g (Nat.lt_of_lt_of_le hg h.size) hS).trans (h.block g hg hS)⟩
theorem Tch.of_below {S : Nat → Prop} {a w : World} (h : Below a.heap.size a w) : Tch S a w := ⟨h.os, h.tape, h.output, h.size, fun k hk _ => h.block k hk⟩
theorem Tch.of_only {S : Nat → Prop} {lo hi : Nat} {a w : World} (h : Only lo hi a w) (hS : ∀ k, lo ≤ k → k < hi → S k) : Tch S a w :=
  ⟨h.os, h.tape, h.output, h.size, fun k hk hn => h.block k hk (by
    rcases Nat.lt_or_ge k lo with h1 | h1
    · exact .inl h1
    · rcases Nat.lt_or_ge k hi with h2 | h2
      · exact absurd (hS k h1 h2) hn
      · exact .inr h2)⟩
theorem Tch.mono {S S' : Nat → Prop} {a w : World} (h : Tch S a w) (hS : ∀ k, S k → S' k) : Tch S' a w := ⟨h.os, h.tape, h.output, h.size, fun k hk hn => h.block k hk fun hs => hn (hS k hs)⟩
theorem Tch.setCell {S : Nat → Prop} {a w : World} (h : Tch S a w) {p : Addr} (hp : S p.block) (u : Value) : Tch S a (w.setCell p u) :=
  h.trans (Tch.of_only ((Only.refl p.block (p.block + 1) w).setCell (Nat.le_refl _) (Nat.lt_succ_self _) u) fun k h1 h2 => by rw [show k = p.block by omega]; exact hp)
theorem Tch.drew {S : Nat → Prop} {a w : World} (h : Tch S a w) : Tch S a w.drew := ⟨h.os, h.tape, h.output, h.size, h.block⟩
theorem Tch.below {S : Nat → Prop} {B : Nat} {a w : World} (h : Tch S a w) (hS : ∀ k, S k → B ≤ k) (hB : B ≤ a.heap.size) : Below B a w :=
  ⟨h.os, h.tape, h.output, h.size, fun k hk => h.block k (by omega) fun hs => by have := hS k hs; omega⟩

/-- At least one move. -/
def Rch1 (n : Nat) (L L' : List Pm) : Prop := ∃ M, Mv n L M ∧ Rch n M L'
theorem Rch1.snoc {n : Nat} {L M L' : List Pm} (h : Rch n L M) (h1 : Mv n M L') : Rch1 n L L' := by
  induction h with
  | refl => exact ⟨_, h1, .refl⟩
  | head hm hr _ => exact ⟨_, hm, hr.trans (.one h1)⟩
theorem rch_mes {n : Nat} {L L' : List Pm} (hL : AllOn n L) (h : Rch n L L') : mes n L' ≤ mes n L := by
  induction h with
  | refl => exact Nat.le_refl _
  | head hm _ ih => have := mes_mv hL hm; have := ih (hL.mv hm); omega
theorem Rch1.mes {n : Nat} {L L' : List Pm} (hL : AllOn n L) (h : Rch1 n L L') : mes n L' < mes n L := by
  obtain ⟨M, hm, hr⟩ := h
  have := mes_mv hL hm
  have := rch_mes (hL.mv hm) hr
  omega

/-- An own row that holds a permutation. -/
structure RowP (n : Nat) (w : World) (g cap : Nat) (p : Pm) (f : Nat → Value) : Prop where
  row : w.rowIs g 2 cap f
  le : n ≤ cap
  cap : cap ≤ maxLen
  eq : ∀ j, j < n → f j = .int .i64 ((p.f j : Nat) : Int)
theorem RowP.rd {n : Nat} {w : World} {g cap : Nat} {p : Pm} {f : Nat → Value} (h : RowP n w g cap p f) : RdI w w.heap.size (.slice (some ⟨g, 0, none⟩) n cap) (lst n p) :=
  RdI.of_own (OwC.of_lst (lo := 0) h.row (Nat.zero_le _) h.le h.cap h.eq)
theorem RowP.block {n : Nat} {w w' : World} {g cap : Nat} {p : Pm} {f : Nat → Value} (h : RowP n w g cap p f) (hb : w'.heap[g]? = w.heap[g]?) : RowP n w' g cap p f := ⟨h.row.of_block hb, h.le, h.cap, h.eq⟩
theorem RowP.lt {n : Nat} {w : World} {g cap : Nat} {p : Pm} {f : Nat → Value} (h : RowP n w g cap p f) : g < w.heap.size := h.row.lt

set_option maxHeartbeats 8000000 in
set_option maxRecDepth 100000 in
theorem weigh_any (n : Nat) (hn2 : 2 ≤ n) (hn : n ≤ 12) (p q : Pm) (hpo : p.On n) (hqo : q.On n) (g1 g2 c1 c2 : Nat) (f1 f2 : Nat → Value) (w : World) (h1 : RowP n w g1 c1 p f1) (h2 : RowP n w g2 c2 q f2) (hne : g1 ≠ g2) :
    Calls Tryz.prog 87 #[.slice (some ⟨g1, 0, none⟩) n c1, .slice (some ⟨g2, 0, none⟩) n c2] w fun e w' => ∃ (ch : Bool) (p' q' : Pm) (f1' f2' : Nat → Value), e = .returned (.bool ch) ∧ Rch n [p, q] [p', q'] ∧
      (∀ k, 1 ≤ k → k < n → q'.start k → p'.fin k) ∧ (ch = false → p' = p ∧ q' = q) ∧ (ch = true → Rch1 n [p, q] [p', q']) ∧ RowP n w' g1 c1 p' f1' ∧ RowP n w' g2 c2 q' f2' ∧ Tch (fun b => b = g1 ∨ b = g2) w w' := by
  have H1 := Lib.hid h1
  have H2 := Lib.hid h2
  have HAO := Lib.hid (show AllOn n [p, q] by intro r hr; simp at hr; rcases hr with rfl | rfl; exact hpo; exact hqo)
  have hz1 := h1.lt
  have hz2 := h2.lt
  have hm1 := h1.cap
  have hm2 := h2.cap
  have hl1 := h1.le
  have hl2 := h2.le
  unfold maxLen at hm1 hm2
  clear h1 h2
  go_enter Tryz.func87, Tryz.ntmps87
  go_wp2
  go_loopg [5] (mes n [p, q]) (fun gk an wr => ∃ (ch : Bool) (a b : Pm) (F G : Nat → Value), an = .bool ch ∧ Hid (gk = mes n [a, b]) ∧ Hid (Rch n [p, q] [a, b]) ∧ Hid (ch = false → a = p ∧ b = q) ∧ Hid (ch = true → Rch1 n [p, q] [a, b]) ∧ Hid (RowP n wr g1 c1 a F) ∧ Hid (RowP n wr g2 c2 b G) ∧ Hid (Tch (fun b => b = g1 ∨ b = g2) w wr))
  case atStart => exact ⟨false, p, q, f1, f2, rfl, rfl, .refl, fun _ => ⟨rfl, rfl⟩, fun h => (by cases h), H1.out, H2.out, Tch.refl _ _⟩
  case round =>
    obtain ⟨ch, a, b, F, G, rfl, HG, HR, HF, HT, HA, HB, HW⟩ := hrel
    obtain ⟨gko, rfl⟩ : ∃ x : Nat, x = gk := ⟨_, rfl⟩
    obtain ⟨wo, rfl⟩ : ∃ x : World, x = wr := ⟨_, rfl⟩
    have HON := Lib.hid (HAO.out.rch HR.out)
    have HQ := Lib.hid (missing_any n (by omega) hn a b (HON.out a (by simp)) _ _ wo HA.out.rd HB.out.rd)
    by_cases hz : exP n a b = 0
    · have HZ := Lib.hid (exP_zero hz)
      rw [hz] at HQ
      clear hz
      go_wp2_with fail
      refine HQ.out.mono ?_
      rintro e w1 ⟨rfl, hb1⟩
      have HB1 := Lib.hid hb1
      clear hb1
      go_wp2
      go_ret
      exact ⟨ch, a, b, F, G, rfl, HR.out, HZ.out, HF.out, HT.out, HA.out.block (HB1.out.block _ HA.out.lt), HB.out.block (HB1.out.block _ HB.out.lt), HW.out.trans (Tch.of_below HB1.out)⟩
    · obtain ⟨k, hk, hk1, hkn, hks, hkf⟩ := exP_pos hz
      rw [hk] at HQ
      have HMV := Lib.hid (show Mv n [a, b] [a.behind k hk1, b.before k hk1] from .here k hk1 hkn hks hkf)
      have HMS := Lib.hid (mes_mv HON.out HMV.out)
      obtain ⟨j, rfl⟩ : ∃ j, k = j + 1 := ⟨k - 1, by omega⟩
      clear hk hks hkf hz
      go_wp2_with fail
      refine HQ.out.mono ?_
      rintro e w1 ⟨rfl, hb1⟩
      have HB1 := Lib.hid hb1
      have HA1 := Lib.hid (HA.out.block (hb1.block _ HA.out.lt))
      have HBB1 := Lib.hid (HB.out.block (hb1.block _ HB.out.lt))
      have HW1 := Lib.hid (HW.out.trans (Tch.of_below (S := fun b => b = g1 ∨ b = g2) hb1))
      clear hb1
      go_wp2
      go_loopg [17] n (fun gm i wi => ∃ (m : Nat) (F1 : Nat → Value), gm = n - m ∧ m ≤ n ∧ i = .int .i64 m ∧ Hid (wi.rowIs g1 2 c1 F1) ∧ Hid (∀ i, i < n → F1 i = .int .i64 (((if i < m then Pm.sw (j + 1) (a.f i) else a.f i) : Nat) : Int)) ∧ Hid (Only g1 (g1 + 1) w1 wi))
      case atStart => exact ⟨0, F, rfl, Nat.zero_le _, rfl, HA1.out.row, fun i hi => by rw [if_neg (by omega)]; exact HA1.out.eq i hi, Only.refl _ _ _⟩
      case round =>
        obtain ⟨m, F1, rfl, hm, rfl, HR1, HF1, HO1⟩ := hrel
        obtain ⟨wi, rfl⟩ : ∃ x : World, x = wr := ⟨_, rfl⟩
        by_cases hlt : m < n
        · have d0 := HR1.out.cell (i := m) (by omega)
          rw [HF1.out m hlt, if_neg (by omega)] at d0
          have g0 := fun i => HR1.out.frozen i
          have HN : Hid (∀ F' : Nat → Value, F' m = .int .i64 ((Pm.sw (j + 1) (a.f m) : Nat) : Int) → (∀ i, i ≠ m → F' i = F1 i) → ∀ i, i < n → F' i = .int .i64 (((if i < m + 1 then Pm.sw (j + 1) (a.f i) else a.f i) : Nat) : Int)) := by
            intro F' h1 h2 i hi
            by_cases h3 : i = m
            · subst h3; rw [if_pos (by omega)]; exact h1
            · rw [h2 i h3, HF1.out i hi]
              by_cases h4 : i < m
              · rw [if_pos h4, if_pos (by omega)]
              · rw [if_neg h4, if_neg (by omega)]
          have HFm := Lib.hid (HF1.out m hlt)
          rw [if_neg (by omega)] at HFm
          generalize hx : a.f m = x at d0 HN HFm
          clear hx
          by_cases h1 : x = j
          · have HV := Lib.hid (show (Pm.sw (j + 1) x : Nat) = j + 1 by rw [h1]; have := Pm.sw_l (k := j + 1) (by omega); rw [Nat.add_sub_cancel] at this; exact this)
            subst h1
            have b3 : ((x : Int) == (x : Int) + 1) = false := by simp; omega
            go_wp2
            go_roundg (n - (m + 1))
            case measure => omega
            case rel => exact ⟨m + 1, _, rfl, by omega, by go_num, HR1.out.set m _, HN.out _ (by show (if m = m then _ else _) = _; rw [if_pos rfl, HV.out]; rfl) (fun i hi => by show (if i = m then _ else _) = _; rw [if_neg hi]), HO1.out.setCell (Nat.le_refl _) (Nat.lt_succ_self _) _⟩
          · by_cases h2 : x = j + 1
            · have HV := Lib.hid (show (Pm.sw (j + 1) x : Nat) = j by rw [h2, Pm.sw_r]; simp)
              subst h2
              have b1 : (((j : Int) + 1) == (j : Int)) = false := by simp; omega
              go_wp2
              go_roundg (n - (m + 1))
              case measure => omega
              case rel => exact ⟨m + 1, _, rfl, by omega, by go_num, HR1.out.set m _, HN.out _ (by show (if m = m then _ else _) = _; rw [if_pos rfl, HV.out]; try simp) (fun i hi => by show (if i = m then _ else _) = _; rw [if_neg hi]), HO1.out.setCell (Nat.le_refl _) (Nat.lt_succ_self _) _⟩
            · have b1 : ((x : Int) == (j : Int)) = false := by simp; omega
              have b2 : ((x : Int) == (j : Int) + 1) = false := by simp; omega
              have HV := Lib.hid (show (Pm.sw (j + 1) x : Nat) = x by rw [Pm.sw_o h2 (by omega)])
              clear h1 h2
              go_wp2
              go_roundg (n - (m + 1))
              case measure => omega
              case rel => exact ⟨m + 1, F1, rfl, by omega, by go_num, HR1.out, HN.out F1 (by rw [HV.out]; exact HFm.out) (fun i hi => rfl), HO1.out⟩
        · obtain rfl : m = n := by omega
          have HP2 := Lib.hid (show RowP m wi g1 c1 (a.behind (j + 1) hk1) F1 from ⟨HR1.out, hl1, HA1.out.cap, fun i hi => by rw [HF1.out i hi, if_pos hi]; rfl⟩)
          have HQ2 := Lib.hid (HBB1.out.block (HO1.out.block g2 HBB1.out.lt (by omega)))
          have d0 := HQ2.out.row.cell (i := j) (by omega)
          have d1 := HQ2.out.row.cell (i := j + 1) (by omega)
          have g0 := fun i => HQ2.out.row.frozen i
          rw [HQ2.out.eq j (by omega)] at d0
          rw [HQ2.out.eq (j + 1) (by omega)] at d1
          have HE := Lib.hid HQ2.out.eq
          have HBF : Hid (∀ F' : Nat → Value, F' j = .int .i64 ((b.f (j + 1) : Nat) : Int) → F' (j + 1) = .int .i64 ((b.f j : Nat) : Int) → (∀ i, i ≠ j → i ≠ j + 1 → F' i = G i) → ∀ i, i < m → F' i = .int .i64 (((b.before (j + 1) hk1).f i : Nat) : Int)) := by
            intro F' h1 h2 h3 i hi
            show _ = Value.int .i64 ((b.f (Pm.sw (j + 1) i) : Nat) : Int)
            by_cases e1 : i = j + 1
            · subst e1; rw [Pm.sw_r, h2]; rfl
            · by_cases e2 : i = j
              · subst e2
                have := Pm.sw_l (k := i + 1) (by omega)
                rw [Nat.add_sub_cancel] at this
                rw [this, h1]
              · rw [Pm.sw_o e1 (by omega), h3 i e2 e1, HE.out i hi]
          generalize b.f (j + 1) = y at d1 HBF
          generalize b.f j = x at d0 HBF
          have hja : (j : Int) + 1 < m := by omega
          have hne1 : ¬ j = j + 1 := by omega
          have hne2 : ¬ j + 1 = j := by omega
          go_wp2
          go_region
          all_goals
            go_wp2
            go_roundg (mes m [a.behind (j + 1) hk1, b.before (j + 1) hk1])
            case measure => rw [HG.out]; exact HMS.out
            case rel =>
              refine ⟨true, _, _, F1, _, rfl, rfl, HR.out.trans (.one HMV.out), fun h => (by cases h), fun _ => Rch1.snoc HR.out HMV.out, ?_, ⟨((HQ2.out.row.set j (.int .i64 (y : Int))).set (j + 1) (.int .i64 (x : Int))).drew, hl2, HQ2.out.cap, HBF.out _ ?_ ?_ ?_⟩, ?_⟩
              · exact HP2.out.block (((Only.refl g2 (g2 + 1) wi).setCell (p := ⟨g2, j, none⟩) (Nat.le_refl _) (Nat.lt_succ_self _) _).setCell (p := ⟨g2, j + 1, none⟩) (Nat.le_refl _) (Nat.lt_succ_self _) _ |>.block g1 HP2.out.lt (by omega))
              · show (if j = j + 1 then _ else if j = j then _ else _) = _
                rw [if_neg hne1, if_pos rfl]
              · show (if j + 1 = j + 1 then _ else _) = _
                rw [if_pos rfl]
              · intro i h1 h2
                show (if i = j + 1 then _ else if i = j then _ else _) = _
                rw [if_neg h2, if_neg h1]
              · exact ((((HW1.out.trans (Tch.of_only HO1.out fun k h1 h2 => .inl (by omega))).setCell (p := ⟨g2, j, none⟩) (.inr rfl) _).setCell (p := ⟨g2, j + 1, none⟩) (.inr rfl) _)).drew

end Go.Proofs.YtccdnmafakaleaaGreatDoor

/-
  Rows of headers that may begin behind the head of their block (s[1:]), and one append to them.
-/
namespace Go.Proofs.YtccdnmafakaleaaGreatDoor
set_option linter.unusedVariables false
set_option linter.unusedSimpArgs false
open Go.RowKit

/-- A row of n elements of one cell of the call's own, from some place of its block on. -/
def OffRow (w : World) (lo : Nat) (E : TypeId) (v : Value) (n : Nat) (xs : List Value) : Prop :=
  xs.length = n ∧ ((v = .slice none 0 0 ∧ n = 0) ∨ ∃ g off cap cur, v = .slice (some ⟨g, off, none⟩) n cap ∧ lo ≤ g ∧ w.heap[g]? = some (.cells cur E (0, 0)) ∧ n ≤ cap ∧ cap ≤ maxLen ∧ off + cap ≤ cur.size ∧ ∀ j, j < n → xs[j]? = cur[off + j]?)
theorem OffRow.nil (w : World) (lo : Nat) (E : TypeId) : OffRow w lo E (.slice none 0 0) 0 [] := ⟨rfl, .inl ⟨rfl, rfl⟩⟩
theorem OffRow.block {w w' : World} {lo : Nat} {E : TypeId} {v : Value} {n : Nat} {xs : List Value} (h : OffRow w lo E v n xs) (hb : ∀ g, v.ownBlock = some g → g < w.heap.size → w'.heap[g]? = w.heap[g]?) : OffRow w' lo E v n xs := by
  refine ⟨h.1, ?_⟩
  rcases h.2 with h2 | ⟨g, off, cap, cur, rfl, hlo, hg, h3⟩
  · exact .inl h2
  · exact .inr ⟨g, off, cap, cur, rfl, hlo, (hb g rfl (Array.getElem?_eq_some_iff.1 hg).1).trans hg, h3⟩
theorem OffRow.lt {w : World} {lo : Nat} {E : TypeId} {v : Value} {n : Nat} {xs : List Value} (h : OffRow w lo E v n xs) : ∀ g, v.ownBlock = some g → lo ≤ g ∧ g < w.heap.size := by
  intro g hg
  rcases h.2 with ⟨rfl, _⟩ | ⟨g', off, cap, cur, rfl, hlo, hh, _⟩
  · cases hg
  · injection hg with hg
    subst hg
    exact ⟨hlo, (Array.getElem?_eq_some_iff.1 hh).1⟩
theorem OffRow.shape {w : World} {lo : Nat} {E : TypeId} {v : Value} {n : Nat} {xs : List Value} (h : OffRow w lo E v n xs) : ∃ A c, v = .slice A n c ∧ n ≤ c ∧ c ≤ maxLen := by
  rcases h.2 with ⟨rfl, rfl⟩ | ⟨g, off, cap, cur, rfl, _, _, h1, h2, _⟩
  · exact ⟨none, 0, rfl, Nat.le_refl _, Nat.zero_le _⟩
  · exact ⟨_, cap, rfl, h1, h2⟩
theorem OffRow.base {w : World} {lo : Nat} {E : TypeId} {v : Value} {n : Nat} {xs : List Value} (h : OffRow w lo E v n xs) (hn : 0 < n) :
    ∃ g off cap, v = .slice (some ⟨g, off, none⟩) n cap ∧ lo ≤ g ∧ g < w.heap.size ∧ n ≤ cap ∧ cap ≤ maxLen ∧ (∀ j u, xs[j]? = some u → w.cell? ⟨g, off + j, none⟩ = some u) ∧ ∀ i, w.frozen? ⟨g, i, none⟩ = false := by
  rcases h.2 with ⟨rfl, h0⟩ | ⟨g, off, cap, cur, rfl, hlo, hh, h1, h2, h3, h4⟩
  · omega
  · refine ⟨g, off, cap, rfl, hlo, (Array.getElem?_eq_some_iff.1 hh).1, h1, h2, fun j u hu => ?_, fun i => frozen_of_row w g i cur E hh⟩
    have hj : j < n := by rw [← h.1]; exact (List.getElem?_eq_some_iff.1 hu).1
    rw [cell_of_row w g (off + j) cur E (0, 0) hh, ← h4 j hj, hu]
/-- The first element taken off. -/
theorem OffRow.tail {w : World} {lo : Nat} {E : TypeId} {g off n cap : Nat} {xs : List Value} (h : OffRow w lo E (.slice (some ⟨g, off, none⟩) (n + 1) cap) (n + 1) xs) :
    OffRow w lo E (if cap = 1 then .slice (some ⟨g, off, none⟩) n (cap - 1) else .slice (some ⟨g, off + 1, none⟩) n (cap - 1)) n (xs.drop 1) := by
  rcases h.2 with ⟨e, _⟩ | ⟨g', off', cap', cur, e, hlo, hh, h1, h2, h3, h4⟩
  · cases e
  · injection e with e1 e2 e3
    injection e1 with e1
    injection e1 with e1 e4
    subst e1 e3 e4
    refine ⟨by rw [List.length_drop, h.1]; omega, .inr ?_⟩
    by_cases hc : cap = 1
    · rw [if_pos hc]
      have hn0 : n = 0 := by omega
      subst hn0
      exact ⟨g, off, cap - 1, cur, rfl, hlo, hh, Nat.zero_le _, by omega, by omega, fun j hj => absurd hj (by omega)⟩
    · rw [if_neg hc]
      refine ⟨g, off + 1, cap - 1, cur, rfl, hlo, hh, by omega, by omega, by omega, fun j hj => ?_⟩
      rw [List.getElem?_drop, show 1 + j = j + 1 by omega, h4 (j + 1) (by omega), show off + (j + 1) = off + 1 + j by omega]
/-- The last element taken off. -/
theorem OffRow.init {w : World} {lo : Nat} {E : TypeId} {g off n cap : Nat} {xs : List Value} (h : OffRow w lo E (.slice (some ⟨g, off, none⟩) (n + 1) cap) (n + 1) xs) :
    OffRow w lo E (.slice (some ⟨g, off, none⟩) n cap) n (xs.take n) := by
  rcases h.2 with ⟨e, _⟩ | ⟨g', off', cap', cur, e, hlo, hh, h1, h2, h3, h4⟩
  · cases e
  · injection e with e1 e2 e3
    injection e1 with e1
    injection e1 with e1 e4
    subst e1 e3 e4
    refine ⟨by rw [List.length_take, h.1]; omega, .inr ⟨g, off, cap, cur, rfl, hlo, hh, by omega, h2, h3, fun j hj => ?_⟩⟩
    rw [List.getElem?_take, if_pos hj, h4 j (by omega)]
/-- An element replaced. -/
theorem OffRow.set {w : World} {lo : Nat} {E : TypeId} {g off n cap i : Nat} {xs : List Value} {s : Value} (h : OffRow w lo E (.slice (some ⟨g, off, none⟩) n cap) n xs) (hi : i < n) :
    OffRow (w.setCell ⟨g, off + i, none⟩ s) lo E (.slice (some ⟨g, off, none⟩) n cap) n (xs.set i s) := by
  rcases h.2 with ⟨e, _⟩ | ⟨g', off', cap', cur, e, hlo, hh, h1, h2, h3, h4⟩
  · cases e
  · injection e with e1 e2 e3
    injection e1 with e1
    injection e1 with e1 e4
    subst e1 e3 e4
    obtain ⟨cur', k1, k2, k3⟩ := (show w.rowIs g E cur.size (fun i => cur.getD i undef) from ⟨cur, hh, rfl, fun i hi => row_getD hi⟩).set (off + i) s
    refine ⟨by rw [List.length_set, h.1], .inr ⟨g, off, cap, cur', rfl, hlo, k1, h1, h2, by omega, fun j hj => ?_⟩⟩
    rw [k3 (off + j) (by omega)]
    by_cases hij : i = j
    · subst hij
      rw [List.getElem?_set_self (by rw [h.1]; exact hi)]
      simp
    · rw [List.getElem?_set_ne hij, h4 j hj, row_getD (by omega)]
      simp [show ¬ j = i by omega]

section
variable {P : Program} (w : World)
theorem run_append_off (lo : Nat) (t ty e : TypeId) (i : TypeInfo) (z : Value) (bytes : Nat) (ht : P.underlying t = some (.slice e)) (hi : P.info? e = some i) (hz : i.zero = some z)
    (hsize : i.size = 1) (hby : i.bytes = bytes) (hzs : z.cells.size = 1) (v : Value) (n : Nat) (xs : List Value) (hown : OffRow w lo e v n xs) (hone : ∀ u ∈ xs, u.oneCell' = true)
    (a : Addr) (c : Nat) (s : Value) (ha : w.cell? a = some s) (h1 : s.oneCell' = true) (hn : n ≤ 1000000) (hbytes : bytes ≤ 1000) (hlo : lo ≤ w.heap.size) :
    ∃ v' w', (Builtin.append_ #[t, t] ty #[v, .slice (some a) 1 c]).run P w = .ok v' w' ∧ OffRow w' lo e v' (n + 1) (xs ++ [s]) ∧ w.grownBy w' v.ownBlock ∧ (v'.ownBlock = v.ownBlock ∨ v'.ownBlock = some w.heap.size) := by
  have hnews : ∀ j u, [s][j]? = some u → w.cell? (a.add j) = some u := by
    intro j u hu
    rcases j with _ | j
    · simp at hu; subst hu; simpa [Addr.add] using ha
    · simp at hu
  have hb1 : (n + 1) * bytes ≤ 140737488355328 := Nat.le_trans (Nat.mul_le_mul (show n + 1 ≤ 1000001 by omega) hbytes) (by decide)
  rcases hown.2 with ⟨rfl, rfl⟩ | ⟨g, off, cap, cur, rfl, hlo', hg, hnc, hcap, hsz, hx⟩
  · have hxs : xs = [] := List.eq_nil_of_length_eq_zero hown.1
    subst hxs
    have hrun := run_append_nil (P := P) w t ty e i z ht hi hz a 1 c [s] (by simp [hsize]) hnews (by omega) (by omega) (by rw [hby]; omega)
    refine ⟨_, _, hrun, ⟨rfl, .inr ⟨w.heap.size, 0, _, _, rfl, hlo, heap_alloc_new w.drew _, grownCap_ge w 1 0 e, grownCap_le_maxLen w 1 0 e (by unfold maxLen; omega), ?_, fun j hj => ?_⟩⟩, ⟨rfl, rfl, rfl, by simp, fun k hk _ => heap_alloc_old w.drew _ hk⟩, .inr rfl⟩
    · have := grownCap_ge w 1 0 e
      simp [Builtin.zeroCells, hzs]
      omega
    · have : j = 0 := by omega
      subst this
      rw [Array.getElem?_append_left (by simp)]
      rfl
  · by_cases hroom : n + 1 ≤ cap
    · have hst := run_storeCells_at (P := P) g (off + n) e [s] 0 cur w hg (by simp; omega) (by simpa using h1)
      have hf := run_firstCells_some (P := P) w i.size 1 a 1 c [s] (by simp [hsize]) hnews
      simp only [Nat.add_zero] at hst
      rw [hsize] at hf
      have hrun : (Builtin.append_ #[t, t] ty #[.slice (some ⟨g, off, none⟩) n cap, .slice (some a) 1 c]).run P w = .ok (.slice (some ⟨g, off, none⟩) (n + 1) cap) (w.setRow g (cur.toList.take (off + n) ++ [s] ++ cur.toList.drop (off + n + [s].length)).toArray) := by
        simp [Builtin.append_, run_underlying ht, sizeOf, typeInfo, hi, Builtin.lenOf, hroom, hf, Addr.add_lit, hsize]
        rw [show (Sem.run P (storeCells { block := g, off := off + n } [s]) w) = _ from hst]
        simp
      refine ⟨_, _, hrun, ⟨by simp [hown.1], .inr ⟨g, off, cap, _, rfl, hlo', setRow_heap w g cur _ e (0, 0) hg, hroom, hcap, ?_, fun j hj => ?_⟩⟩, ⟨rfl, rfl, rfl, by simp, fun k hk hne => setRow_other w g k _ (fun e => hne (by rw [e]; rfl))⟩, .inl rfl⟩
      · simp; omega
      · have hlt : (cur.toList.take (off + n)).length = off + n := by rw [List.length_take]; simp; omega
        by_cases hjn : j < n
        · rw [List.getElem?_append_left (by rw [hown.1]; exact hjn), hx j hjn]
          simp only [List.append_assoc, List.getElem?_toArray]
          rw [List.getElem?_append_left (by omega), List.getElem?_take, if_pos (by omega), Array.getElem?_toList]
        · have hje : j = n := by omega
          subst hje
          rw [List.getElem?_append_right (by rw [hown.1]; exact Nat.le_refl _), hown.1]
          simp only [List.append_assoc, List.getElem?_toArray]
          rw [List.getElem?_append_right (by omega), hlt]
          simp
    · have hxc : ∀ j u, xs[j]? = some u → w.cell? ((⟨g, off, none⟩ : Addr).add j) = some u := fun j u hu => by
        have hj : j < n := by rw [← hown.1]; exact (List.getElem?_eq_some_iff.1 hu).1
        rw [Addr.add_lit, cell_of_row w g (off + j) cur e (0, 0) hg, ← hx j hj, hu]
      have hnc' : cap = n := by omega
      subst hnc'
      have hrun := run_append_grow (P := P) w t ty e i z ht hi hz ⟨g, off, none⟩ cap cap xs (by rw [hown.1, hsize, Nat.mul_one]) hxc a 1 c [s] (by simp [hsize]) hnews (by omega) (by omega) (by rw [hby]; exact growslice_fits (by omega) hb1)
      refine ⟨_, _, hrun, ⟨by simp [hown.1], .inr ⟨w.heap.size, 0, _, _, rfl, hlo, heap_alloc_new w.drew _, grownCap_ge w (cap + 1) cap e, grownCap_le_maxLen w (cap + 1) cap e (by unfold maxLen; omega), ?_, fun j hj => ?_⟩⟩, ⟨rfl, rfl, rfl, by simp, fun k hk _ => heap_alloc_old w.drew _ hk⟩, .inr rfl⟩
      · have := grownCap_ge w (cap + 1) cap e
        simp [Builtin.zeroCells, hzs, hown.1]
        omega
      · rw [Nat.zero_add]
        have hl : (xs ++ [s]).length = cap + 1 := by simp [hown.1]
        rw [show xs.toArray ++ [s].toArray = (xs ++ [s]).toArray by simp, Array.getElem?_append_left (by simp [hown.1]; omega)]
        simp
theorem step_append_off {ops : Array Oper} {o : Oper} {a : Go.Act} {K : Go.Act → World → Prop} {Q : Exit → Go.Act → World → Prop} {E : Prop} (hgd : o.guard = none) (s x : Operand) (t : TypeId)
    (ho : o.op = .call { callee := .builtin .append, args := #[s, x], argTypes := #[t, t] })
    (lo : Nat) (e : TypeId) (i : TypeInfo) (z : Value) (bytes : Nat) (ht : P.underlying t = some (.slice e)) (hi : P.info? e = some i) (hz : i.zero = some z)
    (hsize : i.size = 1) (hby : i.bytes = bytes) (hzs : z.cells.size = 1)
    (v : Value) (n : Nat) (xs : List Value) (hs : a.eval s = v) (hown : OffRow w lo e v n xs) (hone : ∀ u ∈ xs, u.oneCell' = true)
    (ad : Addr) (c : Nat) (sv : Value) (hx : a.eval x = .slice (some ad) 1 c) (ha : w.cell? ad = some sv) (h1 : sv.oneCell' = true) (hn : n ≤ 1000000) (hbytes : bytes ≤ 1000) (hlo : lo ≤ w.heap.size)
    (h : ∀ v' w', OffRow w' lo e v' (n + 1) (xs ++ [sv]) → w.grownBy w' v.ownBlock → (v'.ownBlock = v.ownBlock ∨ v'.ownBlock = some w.heap.size) → K (a.put o.dst v') w') :
    if Region.wanted o (yielded ops a.tmps) = true then Oper.wp P o a w K Q else E := by
  have hw : Region.wanted o (yielded ops a.tmps) = true := by simp [Region.wanted, hgd]
  rw [if_pos hw]
  obtain ⟨v', w', hrun, h2, h3, h4⟩ := run_append_off (P := P) w lo t o.type e i z bytes ht hi hz hsize hby hzs v n xs hown hone ad c sv ha h1 hn hbytes hlo
  unfold Oper.wp execOp
  simp only [ho, resolve, invoke, builtin, Sem.run_bind, Sem.run_pure, Result.andThen_ok, List.map_toArray, List.map_cons, List.map_nil, hs, hx, hrun]
  exact h v' w' h2 h3 h4
end

end Go.Proofs.YtccdnmafakaleaaGreatDoor

/-
  A normal form in a box, of the program: what is kept, and flipAll.
-/
namespace Go.Proofs.YtccdnmafakaleaaGreatDoor
set_option linter.unusedVariables false
set_option linter.unusedSimpArgs false
open Go.RowKit

/-- A factor: its block, its room, and what it is. -/
structure Fh where
  g : Nat
  c : Nat
  p : Pm
  f : Nat → Value
def Fh.hd (n : Nat) (h : Fh) : Value := .slice (some ⟨h.g, 0, none⟩) n h.c
/-- The factors, each in a block of its own. -/
structure Fac (n lo gb : Nat) (w : World) (v : Value) (H : List Fh) : Prop where
  off : OffRow w lo 37 v H.length (H.map (Fh.hd n))
  row : ∀ h ∈ H, RowP n w h.g h.c h.p h.f
  on : ∀ h ∈ H, h.p.On n
  lo : ∀ h ∈ H, lo ≤ h.g
  ob : ∀ h ∈ H, some h.g ≠ v.ownBlock ∧ h.g ≠ gb
  nd : (H.map Fh.g).Nodup
  vb : v.ownBlock ≠ some gb
/-- The box. -/
def BoxN (n gb : Nat) (w : World) (pw : Int) (v : Value) : Prop := ∃ F, w.rowIs gb 74 3 F ∧ F 0 = .int .i64 (n : Int) ∧ F 1 = .int .i64 pw ∧ F 2 = v
theorem BoxN.cells {n gb : Nat} {w : World} {pw : Int} {v : Value} (h : BoxN n gb w pw v) : w.cell? ⟨gb, 0, none⟩ = some (.int .i64 (n : Int)) ∧ w.cell? ⟨gb, 1, none⟩ = some (.int .i64 pw) ∧ w.cell? ⟨gb, 2, none⟩ = some v := by
  obtain ⟨F, hr, h0, h1, h2⟩ := h
  exact ⟨by rw [hr.cell (by omega), h0], by rw [hr.cell (by omega), h1], by rw [hr.cell (by omega), h2]⟩
theorem BoxN.frozen {n gb : Nat} {w : World} {pw : Int} {v : Value} (h : BoxN n gb w pw v) (i : Nat) : w.frozen? ⟨gb, i, none⟩ = false := by
  obtain ⟨F, hr, _⟩ := h
  exact hr.frozen i
theorem BoxN.lt {n gb : Nat} {w : World} {pw : Int} {v : Value} (h : BoxN n gb w pw v) : gb < w.heap.size := by
  obtain ⟨F, hr, _⟩ := h
  exact hr.lt
theorem BoxN.block {n gb : Nat} {w w' : World} {pw : Int} {v : Value} (h : BoxN n gb w pw v) (hb : w'.heap[gb]? = w.heap[gb]?) : BoxN n gb w' pw v := by
  obtain ⟨F, hr, h1⟩ := h
  exact ⟨F, hr.of_block hb, h1⟩
theorem BoxN.pw {n gb : Nat} {w : World} {pw : Int} {v : Value} (h : BoxN n gb w pw v) (q : Int) : BoxN n gb (w.setCell ⟨gb, 1, none⟩ (.int .i64 q)) q v := by
  obtain ⟨F, hr, h0, h1, h2⟩ := h
  exact ⟨_, hr.set 1 _, h0, rfl, h2⟩
theorem BoxN.fac {n gb : Nat} {w : World} {pw : Int} {v : Value} (h : BoxN n gb w pw v) (u : Value) : BoxN n gb (w.setCell ⟨gb, 2, none⟩ u) pw u := by
  obtain ⟨F, hr, h0, h1, h2⟩ := h
  exact ⟨_, hr.set 2 _, h0, h1, rfl⟩
theorem BoxN.far {n gb : Nat} {w : World} {pw : Int} {v : Value} (h : BoxN n gb w pw v) {p : Addr} (hp : p.block ≠ gb) (u : Value) : BoxN n gb (w.setCell p u) pw v := by
  obtain ⟨F, hr, h1⟩ := h
  exact ⟨F, hr.setOther (fun e => hp e.symm) _, h1⟩

theorem Fac.nil (n lo gb : Nat) (w : World) : Fac n lo gb w (.slice none 0 0) [] :=
  ⟨OffRow.nil _ _ _, by simp, by simp, by simp, by simp, by simp, by simp [Value.ownBlock]⟩
/-- What lies in the blocks of the factors and of their headers stands. -/
theorem Fac.block {n lo gb : Nat} {w w' : World} {v : Value} {H : List Fh} (h : Fac n lo gb w v H) (hb : ∀ k, k < w.heap.size → k ≠ gb → w'.heap[k]? = w.heap[k]?) : Fac n lo gb w' v H :=
  ⟨h.off.block fun g hg hl => hb g hl (fun e => h.vb (by rw [hg, e])), fun x hx => (h.row x hx).block (hb _ (h.row x hx).lt (h.ob x hx).2), h.on, h.lo, h.ob, h.nd, h.vb⟩
theorem Fac.block2 {n lo gb : Nat} {w w' : World} {v : Value} {H : List Fh} (h : Fac n lo gb w v H) (hb : ∀ k, lo ≤ k → k < w.heap.size → k ≠ gb → w'.heap[k]? = w.heap[k]?) : Fac n lo gb w' v H :=
  ⟨h.off.block fun g hg hl => hb g (h.off.lt g hg).1 hl (fun e => h.vb (by rw [hg, e])), fun x hx => (h.row x hx).block (hb _ (h.lo x hx) (h.row x hx).lt (h.ob x hx).2), h.on, h.lo, h.ob, h.nd, h.vb⟩
theorem Fac.below {n lo gb : Nat} {w w' : World} {v : Value} {H : List Fh} (h : Fac n lo gb w v H) (hb : Below w.heap.size w w') : Fac n lo gb w' v H := h.block fun k hk _ => hb.block k hk
theorem Fac.box {n lo gb : Nat} {w : World} {v : Value} {H : List Fh} (h : Fac n lo gb w v H) {p : Addr} (hp : p.block = gb) (u : Value) : Fac n lo gb (w.setCell p u) v H :=
  h.block fun k _ hk => Go.Deep.blk_setCell_other _ _ _ _ (by rw [hp]; exact hk)
theorem Fac.get {n lo gb : Nat} {w : World} {v : Value} {H : List Fh} (h : Fac n lo gb w v H) {k : Nat} (hk : k < H.length) :
    ∃ g off cap x, v = .slice (some ⟨g, off, none⟩) H.length cap ∧ H[k]? = some x ∧ x ∈ H ∧ w.cell? ⟨g, off + k, none⟩ = some (.slice (some ⟨x.g, 0, none⟩) n x.c) ∧ (∀ i, w.frozen? ⟨g, i, none⟩ = false) ∧ lo ≤ g ∧ g ≠ gb ∧ g < w.heap.size ∧ x.g ≠ g := by
  obtain ⟨g, off, cap, rfl, h1, h2, h3, h4, h5, h6⟩ := h.off.base (by omega)
  have hm : H[k] ∈ H := List.getElem_mem hk
  refine ⟨g, off, cap, H[k], rfl, List.getElem?_eq_getElem hk, hm, h5 k _ (by rw [List.getElem?_map, List.getElem?_eq_getElem hk]; rfl), h6, h1, fun e => h.vb (by rw [← e]; rfl), h2, fun e => (h.ob _ hm).1 (by rw [e]; rfl)⟩
theorem nodup_at {H : List Fh} (hn : (H.map Fh.g).Nodup) {i j : Nat} {x y : Fh} (hx : H[i]? = some x) (hy : H[j]? = some y) (hij : i ≠ j) : x.g ≠ y.g := by
  intro e
  have hi := (List.getElem?_eq_some_iff.1 hx).1
  have hj := (List.getElem?_eq_some_iff.1 hy).1
  have h1 : (H.map Fh.g)[i]? = (H.map Fh.g)[j]? := by rw [List.getElem?_map, List.getElem?_map, hx, hy]; simp [e]
  exact hij ((List.getElem?_inj (by simpa using hi) hn).1 h1)
theorem nodup_set {H : List Fh} {k : Nat} {y : Fh} (hn : (H.map Fh.g).Nodup) (hy : ∀ x ∈ H, x.g ≠ y.g) : ((H.set k y).map Fh.g).Nodup := by
  refine List.pairwise_iff_getElem.2 fun i j hi hj hij => ?_
  rw [List.length_map, List.length_set] at hi hj
  have h0 := nodup_at hn (List.getElem?_eq_getElem hi) (List.getElem?_eq_getElem hj) (by omega)
  have h1 := hy _ (List.getElem_mem hi)
  have h2 := hy _ (List.getElem_mem hj)
  simp only [List.getElem_map, List.getElem_set]
  by_cases a : k = i
  · rw [if_pos a, if_neg (by omega)]
    exact fun e => h2 e.symm
  · rw [if_neg a]
    by_cases b : k = j
    · rw [if_pos b]
      exact h1
    · rw [if_neg b]
      exact h0
/-- A factor replaced by a fresh one. -/
theorem Fac.set {n lo gb g off cap : Nat} {w : World} {H : List Fh} {k : Nat} {y : Fh} (h : Fac n lo gb w (.slice (some ⟨g, off, none⟩) H.length cap) H) (hk : k < H.length) (hr : RowP n w y.g y.c y.p y.f) (hon : y.p.On n)
    (hlo : lo ≤ y.g) (hne : ∀ x ∈ H, x.g ≠ y.g) (hg : y.g ≠ g) (hgb : y.g ≠ gb) : Fac n lo gb (w.setCell ⟨g, off + k, none⟩ (y.hd n)) (.slice (some ⟨g, off, none⟩) H.length cap) (H.set k y) := by
  refine ⟨?_, fun x hx => ?_, fun x hx => ?_, fun x hx => ?_, fun x hx => ?_, nodup_set h.nd hne, h.vb⟩
  · have := h.off.set (s := y.hd n) hk
    rw [List.length_set, List.map_set]
    exact this
  · rcases List.mem_or_eq_of_mem_set hx with h1 | rfl
    · exact (h.row x h1).block (Go.Deep.blk_setCell_other _ _ _ _ (fun e => (h.ob x h1).1 (congrArg some e)))
    · exact hr.block (Go.Deep.blk_setCell_other _ _ _ _ hg)
  · rcases List.mem_or_eq_of_mem_set hx with h1 | rfl
    · exact h.on x h1
    · exact hon
  · rcases List.mem_or_eq_of_mem_set hx with h1 | rfl
    · exact h.lo x h1
    · exact hlo
  · rcases List.mem_or_eq_of_mem_set hx with h1 | rfl
    · exact h.ob x h1
    · exact ⟨fun e => hg (by injection e), hgb⟩
/-- The first factor taken off. -/
theorem Fac.tail {n lo gb g off cap : Nat} {w : World} {x : Fh} {T : List Fh} (h : Fac n lo gb w (.slice (some ⟨g, off, none⟩) (x :: T).length cap) (x :: T)) :
    Fac n lo gb w (if cap = 1 then .slice (some ⟨g, off, none⟩) T.length (cap - 1) else .slice (some ⟨g, off + 1, none⟩) T.length (cap - 1)) T := by
  have ho : (if cap = 1 then Value.slice (some ⟨g, off, none⟩) T.length (cap - 1) else .slice (some ⟨g, off + 1, none⟩) T.length (cap - 1)).ownBlock = some g := by split <;> rfl
  have hb := h.ob
  have hv := h.vb
  refine ⟨h.off.tail, fun y hy => h.row y (List.mem_cons_of_mem _ hy), fun y hy => h.on y (List.mem_cons_of_mem _ hy), fun y hy => h.lo y (List.mem_cons_of_mem _ hy), fun y hy => ?_, (List.nodup_cons.1 h.nd).2, ?_⟩
  · rw [ho]
    exact hb y (List.mem_cons_of_mem _ hy)
  · rw [ho]
    exact hv
/-- The last factor taken off. -/
theorem Fac.init {n lo gb g off cap : Nat} {w : World} {x : Fh} {T : List Fh} (h : Fac n lo gb w (.slice (some ⟨g, off, none⟩) (T ++ [x]).length cap) (T ++ [x])) : Fac n lo gb w (.slice (some ⟨g, off, none⟩) T.length cap) T := by
  have ho := h.off
  rw [List.length_append, List.map_append] at ho
  have ho := OffRow.init ho
  rw [List.take_append_of_le_length (by simp), List.take_of_length_le (by simp)] at ho
  have hn := h.nd
  rw [List.map_append] at hn
  exact ⟨ho, fun y hy => h.row y (List.mem_append_left _ hy), fun y hy => h.on y (List.mem_append_left _ hy), fun y hy => h.lo y (List.mem_append_left _ hy), fun y hy => h.ob y (List.mem_append_left _ hy), (List.nodup_append.1 hn).1, h.vb⟩
theorem Fac.drew {n lo gb : Nat} {w : World} {v : Value} {H : List Fh} (h : Fac n lo gb w v H) : Fac n lo gb w.drew v H := h.block fun _ _ _ => rfl
theorem BoxN.drew {n gb : Nat} {w : World} {pw : Int} {v : Value} (h : BoxN n gb w pw v) : BoxN n gb w.drew pw v := h.block rfl

theorem OffRow.le {w : World} {lo : Nat} {E : TypeId} {g off n cap : Nat} {xs : List Value} (h : OffRow w lo E (.slice (some ⟨g, off, none⟩) n cap) n xs) : n ≤ cap ∧ cap ≤ maxLen := by
  obtain ⟨A, c, e, h1, h2⟩ := h.shape
  injection e with _ _ e
  subst e
  exact ⟨h1, h2⟩

theorem flip_next {n m k : Nat} {H : List Fh} {q : Pm} (hm : H.length = m) (hk : k < m) (hq : some q = (flipL n ((H.map Fh.p).take k) ++ (H.map Fh.p).drop k)[k]?) :
    (flipL n ((H.map Fh.p).take k) ++ (H.map Fh.p).drop k).set k (Pm.flip n q) = flipL n ((H.map Fh.p).take (k + 1)) ++ (H.map Fh.p).drop (k + 1) := by
  generalize hL : H.map Fh.p = L at *
  have hl : L.length = m := by rw [← hL, List.length_map, hm]
  have hlen : (flipL n (L.take k)).length = k := by unfold flipL; rw [List.length_map, List.length_take]; omega
  rw [List.getElem?_append_right (by omega), hlen, Nat.sub_self, List.getElem?_drop, Nat.add_zero, List.getElem?_eq_getElem (by omega)] at hq
  injection hq with hq
  rw [List.set_append_right _ _ (by omega), hlen, Nat.sub_self, List.drop_eq_getElem_cons (show k < L.length by omega), List.set_cons_zero, List.take_succ_eq_append_getElem (show k < L.length by omega), flipL_append, ← hq, List.append_assoc]
  rfl
set_option maxHeartbeats 4000000 in
set_option maxRecDepth 100000 in
theorem flipAll_any (n : Nat) (hn0 : 0 < n) (hn : n ≤ 12) (lo gb : Nat) (pw : Int) (v : Value) (H : List Fh) (w : World) (hbx : BoxN n gb w pw v) (hfc : Fac n lo gb w v H) (hlo : lo ≤ w.heap.size) :
    Calls Tryz.prog 67 #[.pointer (some ⟨gb, 0, none⟩)] w fun e w' => e = .returned (.tuple #[]) ∧ ∃ H', BoxN n gb w' pw v ∧ Fac n lo gb w' v H' ∧ H'.map Fh.p = flipL n (H.map Fh.p) ∧ Below lo w w' ∧ Tch (fun b => v.ownBlock = some b) w w' := by
  have HBX := Lib.hid hbx
  have HFC := Lib.hid hfc
  obtain ⟨A, c, rfl, hmc, hcm⟩ := hfc.off.shape
  generalize hm : H.length = m at *
  have HM := Lib.hid hm
  obtain ⟨-, -, b2⟩ := hbx.cells
  clear hbx hfc hm
  unfold maxLen at hcm
  go_enter Tryz.func67, Tryz.ntmps67
  go_wp2
  go_loopg [9] m (fun gk i wr => ∃ (k : Nat) (H' : List Fh), gk = m - k ∧ k ≤ m ∧ i = .int .i64 k ∧ Hid (BoxN n gb wr pw (.slice A m c)) ∧ Hid (Fac n lo gb wr (.slice A m c) H') ∧ Hid (H'.length = m) ∧ Hid (H'.map Fh.p = flipL n ((H.map Fh.p).take k) ++ (H.map Fh.p).drop k) ∧ Hid (Tch (fun b => (Value.slice A m c).ownBlock = some b) w wr) ∧ Below lo w wr)
  case atStart => exact ⟨0, H, rfl, Nat.zero_le _, rfl, HBX.out, HFC.out, HM.out, rfl, Tch.refl _ _, Below.refl _ _⟩
  case round =>
    obtain ⟨wo, rfl⟩ : ∃ x : World, x = wr := ⟨_, rfl⟩
    obtain ⟨k, H', rfl, hk, rfl, HB1, HF1, HL1, HP1, HTC, hb⟩ := hrel
    have HB := Lib.hid hb
    have hsz := hb.size
    clear hb
    by_cases hlt : k < m
    · obtain ⟨g, off, cap, x, e, hx, hxm, c0, f0, hg1, hg2, hg3, hxg⟩ := HF1.out.get (k := k) (by rw [HL1.out]; exact hlt)
      injection e with e1 e3 e2
      subst e1 e2
      clear e3
      obtain ⟨-, -, d2⟩ := HB1.out.cells
      have HX := Lib.hid hx
      have HXM := Lib.hid hxm
      have HRX := Lib.hid (HF1.out.row x hxm)
      have HOX := Lib.hid (HF1.out.on x hxm)
      have hle := HRX.out.le
      have hcx := HRX.out.cap
      unfold maxLen at hcx
      have HXL := Lib.hid HRX.out.lt
      clear hx hxm
      go_wp2
      go_region_with ((go_at_call 84; refine (flip_any n hn x.p HOX.out _ _ (((HRX.out.block (w' := wo.drew) rfl).rd))).mono ?_; rintro e w1 ⟨v1, rfl, ho1, hb1⟩; obtain ⟨g1, cap1, F1, rfl, hlo1, hhi1, hrow1, hnc1, hcap1, hval1⟩ := own_lst ho1 hn0; simp only [lst_len] at *; have hb2 : Below wo.heap.size wo w1 := (Below.refl wo.heap.size wo).drew.trans hb1; have q2 := (hb2.cell (p := ⟨gb, 2, none⟩) HB1.out.lt).trans d2; have q0 := (hb2.cell (p := ⟨g, off + k, none⟩) hg3).trans c0; have qf : ∀ i, w1.frozen? ⟨g, i, none⟩ = false := fun i => ((bcell hb2).2 _ _ hg3).trans (f0 i); have HR1 := Lib.hid (show RowP n w1 g1 cap1 (Pm.flip n x.p) F1 from ⟨hrow1, hnc1, hcap1, hval1⟩); have HB2 := Lib.hid hb2; have HG1 := Lib.hid (show wo.heap.size ≤ g1 from hlo1); clear hb1 hb2 ho1 hrow1 hval1))
      all_goals
        go_wp2
        go_roundg (m - (k + 1))
        case measure => omega
        case rel =>
          have hk' : k < H'.length := by rw [HL1.out]; exact hlt
          have hfs := Fac.set (y := ⟨g1, cap1, Pm.flip n x.p, F1⟩) (h := by rw [HL1.out]; exact HF1.out.below HB2.out) hk' HR1.out HOX.out.flip (Nat.le_trans (Nat.le_trans hlo hsz) HG1.out) (fun z hz e => absurd (HF1.out.row z hz).lt (by have := HG1.out; simp only at e; omega)) (by have := HG1.out; simp only; omega) (by have := HG1.out; have := HB1.out.lt; simp only; omega)
          rw [HL1.out] at hfs
          refine ⟨k + 1, H'.set k ⟨g1, cap1, Pm.flip n x.p, F1⟩, rfl, by omega, by go_num, (HB1.out.block (HB2.out.block _ HB1.out.lt)).far (by simpa using hg2) _, hfs, (List.length_set).trans HL1.out, ?_, (HTC.out.trans (Tch.of_below HB2.out)).setCell (p := ⟨g, off + k, none⟩) rfl _, (HB.out.trans (HB2.out.mono (Nat.le_trans hlo hsz))).setCell (p := ⟨g, off + k, none⟩) hg1 _⟩
          show (H'.set k ⟨g1, cap1, Pm.flip n x.p, F1⟩).map Fh.p = flipL n ((H.map Fh.p).take (k + 1)) ++ (H.map Fh.p).drop (k + 1)
          rw [List.map_set, HP1.out]
          exact flip_next HM.out hlt (by have h := HP1.out; have h2 := congrArg (fun l : List Pm => l[k]?) h; simp only [List.getElem?_map, HX.out] at h2; exact h2)
    · obtain rfl : k = m := by omega
      go_wp2
      go_end0
      refine ⟨rfl, H', HB1.out, HF1.out, ?_, HB.out, HTC.out⟩
      rw [HP1.out, List.take_of_length_le (by simp [HM.out]), List.drop_eq_nil_of_le (by simp [HM.out]), List.append_nil]

end Go.Proofs.YtccdnmafakaleaaGreatDoor

/-
  Half twists taken out at the beginning, identities at the end, of the program: tidy.
-/
namespace Go.Proofs.YtccdnmafakaleaaGreatDoor
set_option linter.unusedVariables false
set_option linter.unusedSimpArgs false
open Go.RowKit

def hdIs (n : Nat) (q : Pm) : List Fh → Bool
  | [] => false
  | x :: _ => decide (lst n x.p = lst n q)
def laIs (n : Nat) (q : Pm) (H : List Fh) : Bool := hdIs n q H.reverse
theorem ones_uniq {A B : List Pm} {x : Pm} : ∀ {b c : Nat}, A ++ List.replicate b x = B ++ List.replicate c x → A.getLast? ≠ some x → B.getLast? ≠ some x → A = B
  | 0, 0, e, _, _ => by simpa using e
  | b + 1, 0, e, _, hB => by
    exfalso
    apply hB
    rw [List.replicate_zero, List.append_nil] at e
    rw [← e, List.replicate_succ', ← List.append_assoc, List.getLast?_concat]
  | 0, c + 1, e, hA, _ => by
    exfalso
    apply hA
    rw [List.replicate_zero, List.append_nil] at e
    rw [e, List.replicate_succ', ← List.append_assoc, List.getLast?_concat]
  | b + 1, c + 1, e, hA, hB => by
    rw [List.replicate_succ', List.replicate_succ', ← List.append_assoc, ← List.append_assoc] at e
    exact ones_uniq (List.append_inj_left' e rfl) hA hB
/-- What is left when no half twist is at the beginning and no identity at the end. -/
theorem tidy_law {n : Nat} (hn : 2 ≤ n) {L L2 : List Pm} {j b : Nat} (hL : AllOn n L) (hs : Sett n L) (e : L = nfm n j L2 b) (h1 : (L2 ++ List.replicate b Pm.one).head? ≠ some (Pm.half n)) (h2 : L2.getLast? ≠ some Pm.one) : Good n L2 := by
  subst e
  have hL1 : AllOn n (L2 ++ List.replicate b Pm.one) := hL.right
  have hs1 : Sett n (L2 ++ List.replicate b Pm.one) := sett_drop _ hs
  obtain ⟨a, F, c, e, hg⟩ := shape_ex _ hL1 hs1
  cases a with
  | zero =>
    unfold nfm at e
    rw [List.replicate_zero, List.nil_append] at e
    have h3 : F.getLast? ≠ some Pm.one := fun h => (hg _ (List.mem_of_getLast? h)).1 rfl
    rw [ones_uniq e h2 h3]
    exact hg
  | succ a =>
    exfalso
    apply h1
    rw [e]
    rfl

theorem hdIs_not {n : Nat} {q : Pm} {H : List Fh} (h : hdIs n q H = false) : (H.map Fh.p).head? ≠ some q := by
  cases H with
  | nil => simp
  | cons x T =>
    intro e
    injection e with e
    rw [show hdIs n q (x :: T) = decide (lst n x.p = lst n q) from rfl, show x.p = q from e] at h
    simp at h
theorem laIs_not {n : Nat} {q : Pm} {H : List Fh} (h : laIs n q H = false) : (H.map Fh.p).getLast? ≠ some q := by
  have h1 := hdIs_not h
  rw [List.map_reverse, List.head?_reverse] at h1
  exact h1
set_option maxHeartbeats 4000000 in
set_option maxRecDepth 100000 in
theorem tidy_any (n : Nat) (hn2 : 2 ≤ n) (hn : n ≤ 12) (lo gb : Nat) (pw : Int) (v : Value) (H : List Fh) (w : World) (hbx : BoxN n gb w pw v) (hfc : Fac n lo gb w v H) (hlo : lo ≤ gb)
    (hst : Sett n (H.map Fh.p)) (hp0 : -1000000 ≤ pw) (hp1 : pw ≤ 1000000) (hlen : H.length ≤ 1000000) :
    Calls Tryz.prog 88 #[.pointer (some ⟨gb, 0, none⟩)] w fun e w' => e = .returned (.tuple #[]) ∧ ∃ (a b : Nat) (v' : Value) (H' : List Fh), BoxN n gb w' (pw + a) v' ∧ Fac n lo gb w' v' H' ∧ H.map Fh.p = nfm n a (H'.map Fh.p) b ∧ Good n (H'.map Fh.p) ∧ Below lo w w' := by
  have HBX := Lib.hid hbx
  have HFC := Lib.hid hfc
  have HST := Lib.hid hst
  have HLE := Lib.hid hlen
  have hn1 : (1 : Int) < (n : Int) := by omega
  have hgb := hbx.lt
  obtain ⟨b0, -, -⟩ := hbx.cells
  clear hbx hfc hst hlen
  go_enter Tryz.func88, Tryz.ntmps88
  go_upto_region 0 with fail
  go_cut [2, 3] from 4 (fun s2 s3 wc => ∃ (g1 c1 g2 c2 : Nat) (F1 F2 : Nat → Value), s2 = .slice (some ⟨g1, 0, none⟩) n c1 ∧ s3 = .slice (some ⟨g2, 0, none⟩) n c2 ∧ w.heap.size ≤ g1 ∧ w.heap.size ≤ g2 ∧ Hid (RowP n wc g1 c1 (Pm.half n) F1) ∧ Hid (RowP n wc g2 c2 Pm.one F2) ∧ Below w.heap.size w wc)
  case first =>
    go_region_with ((first | (go_at_call 69; refine (halfTwist_any n (by omega) hn _).mono ?_; rintro e wa ⟨va, rfl, hoa, hba⟩; obtain ⟨ga, ca, Fa, rfl, hloa, hhia, hrowa, hnca, hcapa, hvala⟩ := own_lst hoa (by omega); simp only [lst_len] at *; have HA := Lib.hid (show Below w.heap.size w wa from by first | exact HB.out.trans (hba.mono HB.out.size) | exact (Below.refl w.heap.size w).drew.trans hba); have HBA := Lib.hid hba; have qa : wa.cell? ⟨gb, 0, none⟩ = some (.int .i64 (n : Int)) := (HA.out.cell (p := ⟨gb, 0, none⟩) hgb).trans b0; have HRA := Lib.hid (show RowP n wa ga ca (Pm.half n) Fa from ⟨hrowa, hnca, hcapa, hvala⟩); clear hba hoa hrowa hvala) | (go_at_call 83; refine (identity_any n hn _).mono ?_; rintro e wb ⟨vb, rfl, hob, hbb⟩; obtain ⟨gB, cb, Fb, rfl, hlob, hhib, hrowb, hncb, hcapb, hvalb⟩ := own_lst hob (by omega); simp only [lst_len] at *; have HB := Lib.hid (show Below w.heap.size w wb from by first | exact HA.out.trans (hbb.mono HA.out.size) | exact (Below.refl w.heap.size w).drew.trans hbb); have HBB := Lib.hid hbb; have qb : wb.cell? ⟨gb, 0, none⟩ = some (.int .i64 (n : Int)) := (HB.out.cell (p := ⟨gb, 0, none⟩) hgb).trans b0; have HRB := Lib.hid (show RowP n wb gB cb Pm.one Fb from ⟨hrowb, hncb, hcapb, hvalb⟩); clear hbb hob hrowb hvalb)))
    all_goals
      go_wp2
      go_meet
      case rel =>
        first
        | exact ⟨ga, ca, gB, cb, Fa, Fb, rfl, rfl, (by have := HB.out.size; first | exact hloa | omega), (by have := HA.out.size; first | exact hlob | omega), HRA.out.block (HBB.out.block _ HRA.out.lt), HRB.out, HB.out⟩
        | exact ⟨ga, ca, gB, cb, Fa, Fb, rfl, rfl, (by have := HB.out.size; first | exact hloa | omega), (by have := HA.out.size; first | exact hlob | omega), HRA.out, HRB.out.block (HBA.out.block _ HRB.out.lt), HA.out⟩
  case rest =>
    obtain ⟨g1, c1, g2, c2, F1, F2, rfl, rfl, hg1, hg2, HR1, HR2, hbc⟩ := hcut
    obtain ⟨wa, rfl⟩ : ∃ x : World, x = wc := ⟨_, rfl⟩
    have HBC := Lib.hid hbc
    have zc := hbc.size
    have HT0 := Lib.hid (Tch.of_below (S := fun b => b = gb) hbc)
    have HBXa := Lib.hid (HBX.out.block (hbc.block _ hgb))
    have HFCa := Lib.hid (HFC.out.below hbc)
    clear hbc b0
    have hle1 := HR1.out.le
    have hle2 := HR2.out.le
    have hcm1 := HR1.out.cap
    have hcm2 := HR2.out.cap
    unfold maxLen at hcm1 hcm2
    go_wp2
    go_loopg [] H.length (fun gk wr => ∃ (j : Nat) (v1 : Value) (H1 : List Fh), Hid (gk = H1.length) ∧ Hid (BoxN n gb wr (pw + j) v1) ∧ Hid (Fac n lo gb wr v1 H1) ∧ Hid (H.map Fh.p = List.replicate j (Pm.half n) ++ H1.map Fh.p) ∧ Hid (j + H1.length = H.length) ∧ Hid (Tch (fun b => b = gb) wa wr))
    case atStart => exact ⟨0, v, H, rfl, by unfold Hid; rw [show pw + ((0 : Nat) : Int) = pw by omega]; exact HBXa.out, HFCa.out, rfl, Nat.zero_add _, Tch.refl _ _⟩
    case round =>
      obtain ⟨wo, rfl⟩ : ∃ x : World, x = wr := ⟨_, rfl⟩
      obtain ⟨j, v1, H1, HG, HB1, HF1, HL1, HJ, HT1⟩ := hrel
      obtain ⟨gko, rfl⟩ : ∃ x : Nat, x = gk := ⟨_, rfl⟩
      have HRA := Lib.hid (HR1.out.block (HT1.out.block g1 HR1.out.lt (show ¬ g1 = gb by omega)))
      have HRB := Lib.hid (HR2.out.block (HT1.out.block g2 HR2.out.lt (show ¬ g2 = gb by omega)))
      have hjl : j ≤ 1000000 := by have := HJ.out; have := HLE.out; omega
      go_upto_region 1 with fail
      go_cut [36] from 14 to 51 (fun s36 wx => s36 = .bool (hdIs n (Pm.half n) H1) ∧ Hid (Below wo.heap.size wo wx))
      case first =>
        obtain ⟨d0, d1, d2⟩ := HB1.out.cells
        cases H1 with
        | nil =>
          obtain ⟨A1, cc1, rfl, -, -⟩ := HF1.out.off.shape
          simp only [List.length_nil] at *
          go_wp2
          go_meet
          case rel => exact ⟨rfl, Below.refl _ _⟩
        | cons x T =>
          obtain ⟨g, off, cap, y, rfl, hy, hym, c0, f0, hgl, hgg, hgs, hyg⟩ := HF1.out.get (k := 0) (by simp)
          simp at hy
          subst hy
          have HRX := Lib.hid (HF1.out.row x hym)
          obtain ⟨hmc, hcm⟩ := HF1.out.off.le
          unfold maxLen at hcm
          simp only [List.length_cons, Nat.add_zero] at *
          have ht0 : (0 : Int) < (T.length : Int) + 1 := by omega
          go_wp2_with fail
          refine (eqlInts_any _ _ (lst n x.p) (lst n (Pm.half n)) _ _ HRX.out.rd HRA.out.rd (Nat.le_refl _)).mono ?_
          rintro e w1 ⟨rfl, hb1⟩
          have HBW := Lib.hid hb1
          clear hb1
          go_wp2
          go_meet
          case rel => exact ⟨rfl, HBW.out⟩
      case rest =>
        obtain ⟨rfl, HBX1⟩ := hcut
        obtain ⟨wx, rfl⟩ : ∃ x : World, x = wc := ⟨_, rfl⟩
        have HB2 := Lib.hid (HB1.out.block (HBX1.out.block _ HB1.out.lt))
        have HF2 := Lib.hid (HF1.out.below HBX1.out)
        have HT2 := Lib.hid (HT1.out.trans (Tch.of_below HBX1.out))
        cases hc : hdIs n (Pm.half n) H1
        · have HH1 := Lib.hid (hdIs_not hc)
          have HRA2 := Lib.hid (HR1.out.block (HT2.out.block g1 HR1.out.lt (show ¬ g1 = gb by omega)))
          have HRB2 := Lib.hid (HR2.out.block (HT2.out.block g2 HR2.out.lt (show ¬ g2 = gb by omega)))
          clear hc
          go_wp2
          go_loopg [] H1.length (fun gk wr => ∃ (b : Nat) (v2 : Value) (H2 : List Fh), Hid (gk = H2.length) ∧ Hid (BoxN n gb wr (pw + j) v2) ∧ Hid (Fac n lo gb wr v2 H2) ∧ Hid (H1.map Fh.p = H2.map Fh.p ++ List.replicate b Pm.one) ∧ Hid (b + H2.length = H1.length) ∧ Hid (Tch (fun b => b = gb) wa wr))
          case atStart => exact ⟨0, v1, H1, rfl, HB2.out, HF2.out, by simp [Hid], Nat.zero_add _, HT2.out⟩
          case round =>
            obtain ⟨wi, rfl⟩ : ∃ x : World, x = wr := ⟨_, rfl⟩
            obtain ⟨b, v2, H2, HGI, HBI, HFI, HLI, HJI, HTI⟩ := hrel
            obtain ⟨gki, rfl⟩ : ∃ x : Nat, x = gk := ⟨_, rfl⟩
            have HRBI := Lib.hid (HR2.out.block (HTI.out.block g2 HR2.out.lt (show ¬ g2 = gb by omega)))
            have hl2 : H2.length ≤ 1000000 := by have := HJ.out; have := HLE.out; have := HJI.out; omega
            go_upto_region 4 with fail
            go_cut [73] from 52 to 87 (fun s73 wx => s73 = .bool (laIs n Pm.one H2) ∧ Hid (Below wi.heap.size wi wx))
            case first =>
              have HC := Lib.hid HBI.out.cells
              rcases List.eq_nil_or_concat H2 with rfl | ⟨T, x, rfl⟩
              · obtain ⟨A1, cc1, rfl, -, -⟩ := HFI.out.off.shape
                simp only [List.length_nil] at *
                have e2 := fun X => wgrow_cell (x := X) HC.out.2.2
                go_wp2
                refine wp_region_grow (by kernel_rfl) (by kernel_rfl) ?_
                repeat (go_big_quiet_step (fail))
                refine wpQuiet_nil ?_
                intro w1 hb1
                go_wp2
                go_meet
                case rel => exact ⟨rfl, hb1⟩
              · obtain ⟨g, off, cap, y, rfl, hy, hym, c0, f0, hgl, hgg, hgs, hyg⟩ := HFI.out.get (k := T.length) (by simp)
                simp at hy
                subst hy
                have HRX := Lib.hid (HFI.out.row x hym)
                obtain ⟨hmc, hcm⟩ := HFI.out.off.le
                unfold maxLen at hcm
                rw [List.concat_eq_append] at *
                simp only [List.length_append, List.length_cons, List.length_nil, Nat.zero_add] at *
                have e2 := fun X => wgrow_cell (x := X) HC.out.2.2
                have e0 := fun X => wgrow_cell (x := X) c0
                have ht0 : (0 : Int) < (T.length : Int) + 1 := by omega
                have HQ := Lib.hid (fun X => eqlInts_any _ _ (lst n x.p) (lst n Pm.one) (wgrow wi X) _ (HRX.out.block (w' := wgrow wi X) ((below_wgrow wi X).block _ HRX.out.lt)).rd (HRBI.out.block (w' := wgrow wi X) ((below_wgrow wi X).block _ HRBI.out.lt)).rd (Nat.le_refl _))
                have HLA : Hid (laIs n Pm.one (T ++ [x]) = decide (lst n x.p = lst n Pm.one)) := by unfold Hid laIs; rw [List.reverse_append]; rfl
                clear c0 hym
                go_wp2
                refine wp_region_grow (by kernel_rfl) (by kernel_rfl) ?_
                repeat (go_big_quiet_step ((go_at_call 64; exact calls_grow (HQ.out _))))
                refine wpQuiet_nil ?_
                intro w1 hb1
                go_wp2
                go_meet
                case rel => exact ⟨by rw [HLA.out], hb1⟩
            case rest =>
              obtain ⟨rfl, HBY⟩ := hcut
              obtain ⟨wy, rfl⟩ : ∃ x : World, x = wc := ⟨_, rfl⟩
              have HB3 := Lib.hid (HBI.out.block (HBY.out.block _ HBI.out.lt))
              have HF3 := Lib.hid (HFI.out.below HBY.out)
              have HT3 := Lib.hid (HTI.out.trans (Tch.of_below HBY.out))
              cases hc : laIs n Pm.one H2
              · have HC := Lib.hid hc
                clear hc
                go_wp2
                go_end0
                have e : H.map Fh.p = nfm n j (H2.map Fh.p) b := by rw [HL1.out, HLI.out]; rfl
                have hon : AllOn n (H.map Fh.p) := by intro p hp; obtain ⟨y, hy, rfl⟩ := List.mem_map.1 hp; exact HFC.out.on y hy
                exact ⟨rfl, j, b, v2, H2, HB3.out, HF3.out, e, tidy_law hn2 hon HST.out e (by rw [← HLI.out]; exact HH1.out) (laIs_not HC.out), (HBC.out.mono (by omega)).trans (HT3.out.below (fun k hk => by rw [hk]; exact hlo) (by omega))⟩
              · rcases List.eq_nil_or_concat H2 with rfl | ⟨T, x, rfl⟩
                · simp [laIs, hdIs] at hc
                · rw [List.concat_eq_append] at *
                  have HPX := Lib.hid (show x.p = Pm.one from lst_inj (HF3.out.on x (by simp)) (Pm.on_one n) (by unfold laIs at hc; rw [List.reverse_append] at hc; simpa [hdIs] using hc))
                  obtain ⟨g, off, cap, y, rfl, hy, hym, c0, f0, hgl, hgg, hgs, hyg⟩ := HF3.out.get (k := T.length) (by simp)
                  obtain ⟨hmc, hcm⟩ := HF3.out.off.le
                  unfold maxLen at hcm
                  obtain ⟨d0, d1, d2⟩ := HB3.out.cells
                  have e0 := fun i => HB3.out.frozen i
                  have HFT := Lib.hid HF3.out.init
                  clear hc hy hym c0
                  simp only [List.length_append, List.length_cons, List.length_nil, Nat.zero_add] at *
                  go_wp2
                  go_region
                  all_goals
                    go_wp2
                    go_roundg T.length
                    case measure => rw [HGI.out]; omega
                    case rel => exact ⟨b + 1, .slice (some ⟨g, off, none⟩) T.length cap, T, rfl, (HB3.out.fac _).drew, (HFT.out.box rfl _).drew, by unfold Hid; rw [HLI.out, List.map_append, List.replicate_succ, List.append_assoc, List.map_cons, HPX.out]; rfl, by have := HJI.out; unfold Hid; omega, (HT3.out.setCell rfl _).drew⟩
        · cases H1 with
          | nil => simp [hdIs] at hc
          | cons x T =>
            have HPX := Lib.hid (show x.p = Pm.half n from lst_inj (HF2.out.on x (by simp)) (Pm.on_half n) (by simpa [hdIs] using hc))
            obtain ⟨g, off, cap, y, rfl, hy, hym, c0, f0, hgl, hgg, hgs, hyg⟩ := HF2.out.get (k := 0) (by simp)
            clear hc hy hym c0
            obtain ⟨hmc, hcm⟩ := HF2.out.off.le
            unfold maxLen at hcm
            obtain ⟨d0, d1, d2⟩ := HB2.out.cells
            have e0 := fun i => HB2.out.frozen i
            have HFT := Lib.hid HF2.out.tail
            simp only [List.length_cons] at *
            have hc1 : 1 ≤ cap := by omega
            by_cases hcap : cap = 1
            · subst hcap
              obtain rfl : T = [] := List.eq_nil_of_length_eq_zero (by omega)
              simp only [List.length_nil] at *
              go_wp2
              go_roundg 0
              case measure => rw [HG.out]; omega
              case rel => exact ⟨j + 1, .slice (some ⟨g, off, none⟩) 0 0, [], rfl, by unfold Hid; rw [show pw + ((j + 1 : Nat) : Int) = pw + j + 1 by omega]; exact (HB2.out.pw _).fac _, (HFT.out.box rfl _).box rfl _, by unfold Hid; rw [HL1.out, List.replicate_succ', List.append_assoc, List.map_cons, HPX.out]; rfl, by have := HJ.out; unfold Hid; simp only [List.length_nil]; omega, (HT2.out.setCell rfl _).setCell rfl _⟩
            · rw [if_neg hcap] at HFT
              go_wp2
              go_roundg T.length
              case measure => rw [HG.out]; omega
              case rel => exact ⟨j + 1, .slice (some ⟨g, off + 1, none⟩) T.length (cap - 1), T, rfl, by unfold Hid; rw [show pw + ((j + 1 : Nat) : Int) = pw + j + 1 by omega]; exact (HB2.out.pw _).fac _, (HFT.out.box rfl _).box rfl _, by unfold Hid; rw [HL1.out, List.replicate_succ', List.append_assoc, List.map_cons, HPX.out]; rfl, by have := HJ.out; unfold Hid; omega, (HT2.out.setCell rfl _).setCell rfl _⟩

end Go.Proofs.YtccdnmafakaleaaGreatDoor
