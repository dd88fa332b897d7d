/-
  Letters moved in place, of the program: weigh.
-/
import Derived.Test.YtfeonaocmnpkcaaGarD
import Derived.Test.YtfeonaocmnpkcaaGarG
import Derived.Deep.LoopGhost
namespace Go.Proofs.Ytfeonaocmnpkcaa
set_option linter.unusedVariables false
set_option linter.unusedSimpArgs false
open Go.RowKit

/-- Only blocks of which S holds, and new ones, are other than before. -/
structure Tch (S : Nat → Prop) (w w' : World) : Prop where
  os : w'.os = w.os
  tape : w'.tape = w.tape
  output : w'.output = w.output
  size : w.heap.size ≤ w'.heap.size
  block : ∀ k, k < w.heap.size → ¬ S k → w'.heap[k]? = w.heap[k]?
theorem Tch.refl (S : Nat → Prop) (w : World) : Tch S w w := ⟨rfl, rfl, rfl, Nat.le_refl _, fun _ _ _ => rfl⟩
theorem Tch.trans {S : Nat → Prop} {a b c : World} (h : Tch S a b) (k : Tch S b c) : Tch S a c :=
  ⟨k.os.trans h.os, k.tape.trans h.tape, k.output.trans h.output, Nat.le_trans h.size k.size, fun g hg hS => (k.block g (Nat.lt_of_lt_of_le hg h.size) hS).trans (h.block g hg hS)⟩
theorem Tch.of_below {S : Nat → Prop} {a w : World} (h : Below a.heap.size a w) : Tch S a w := ⟨h.os, h.tape, h.output, h.size, fun k hk _ => h.block k hk⟩
theorem Tch.of_only {S : Nat → Prop} {lo hi : Nat} {a w : World} (h : Only lo hi a w) (hS : ∀ k, lo ≤ k → k < hi → S k) : Tch S a w :=
  ⟨h.os, h.tape, h.output, h.size, fun k hk hn => h.block k hk (by
    rcases Nat.lt_or_ge k lo with h1 | h1
    · exact .inl h1
    · rcases Nat.lt_or_ge k hi with h2 | h2
      · exact absurd (hS k h1 h2) hn
      · exact .inr h2)⟩
theorem Tch.mono {S S' : Nat → Prop} {a w : World} (h : Tch S a w) (hS : ∀ k, S k → S' k) : Tch S' a w := ⟨h.os, h.tape, h.output, h.size, fun k hk hn => h.block k hk fun hs => hn (hS k hs)⟩
theorem Tch.setCell {S : Nat → Prop} {a w : World} (h : Tch S a w) {p : Addr} (hp : S p.block) (u : Value) : Tch S a (w.setCell p u) :=
  h.trans (Tch.of_only ((Only.refl p.block (p.block + 1) w).setCell (Nat.le_refl _) (Nat.lt_succ_self _) u) fun k h1 h2 => by rw [show k = p.block by omega]; exact hp)
theorem Tch.drew {S : Nat → Prop} {a w : World} (h : Tch S a w) : Tch S a w.drew := ⟨h.os, h.tape, h.output, h.size, h.block⟩
theorem Tch.below {S : Nat → Prop} {B : Nat} {a w : World} (h : Tch S a w) (hS : ∀ k, S k → B ≤ k) (hB : B ≤ a.heap.size) : Below B a w :=
  ⟨h.os, h.tape, h.output, h.size, fun k hk => h.block k (by omega) fun hs => by have := hS k hs; omega⟩

/-- At least one move. -/
def Rch1 (n : Nat) (L L' : List Pm) : Prop := ∃ M, Mv n L M ∧ Rch n M L'
theorem Rch1.snoc {n : Nat} {L M L' : List Pm} (h : Rch n L M) (h1 : Mv n M L') : Rch1 n L L' := by
  induction h with
  | refl => exact ⟨_, h1, .refl⟩
  | head hm hr _ => exact ⟨_, hm, hr.trans (.one h1)⟩
theorem rch_mes {n : Nat} {L L' : List Pm} (hL : AllOn n L) (h : Rch n L L') : mes n L' ≤ mes n L := by
  induction h with
  | refl => exact Nat.le_refl _
  | head hm _ ih => have := mes_mv hL hm; have := ih (hL.mv hm); omega
theorem Rch1.mes {n : Nat} {L L' : List Pm} (hL : AllOn n L) (h : Rch1 n L L') : mes n L' < mes n L := by
  obtain ⟨M, hm, hr⟩ := h
  have := mes_mv hL hm
  have := rch_mes (hL.mv hm) hr
  omega

/-- An own row that holds a permutation. -/
structure RowP (n : Nat) (w : World) (g cap : Nat) (p : Pm) (f : Nat → Value) : Prop where
  row : w.rowIs g 2 cap f
  le : n ≤ cap
  cap : cap ≤ maxLen
  eq : ∀ j, j < n → f j = .int .i64 ((p.f j : Nat) : Int)
theorem RowP.rd {n : Nat} {w : World} {g cap : Nat} {p : Pm} {f : Nat → Value} (h : RowP n w g cap p f) : RdI w w.heap.size (.slice (some ⟨g, 0, none⟩) n cap) (lst n p) :=
  RdI.of_own (OwC.of_lst (lo := 0) h.row (Nat.zero_le _) h.le h.cap h.eq)
theorem RowP.block {n : Nat} {w w' : World} {g cap : Nat} {p : Pm} {f : Nat → Value} (h : RowP n w g cap p f) (hb : w'.heap[g]? = w.heap[g]?) : RowP n w' g cap p f := ⟨h.row.of_block hb, h.le, h.cap, h.eq⟩
theorem RowP.lt {n : Nat} {w : World} {g cap : Nat} {p : Pm} {f : Nat → Value} (h : RowP n w g cap p f) : g < w.heap.size := h.row.lt

set_option maxHeartbeats 8000000 in
set_option maxRecDepth 100000 in
theorem weigh_any (n : Nat) (hn2 : 2 ≤ n) (hn : n ≤ 12) (p q : Pm) (hpo : p.On n) (hqo : q.On n) (g1 g2 c1 c2 : Nat) (f1 f2 : Nat → Value) (w : World) (h1 : RowP n w g1 c1 p f1) (h2 : RowP n w g2 c2 q f2) (hne : g1 ≠ g2) :
    Calls Try.prog 105 #[.slice (some ⟨g1, 0, none⟩) n c1, .slice (some ⟨g2, 0, none⟩) n c2] w fun e w' => ∃ (ch : Bool) (p' q' : Pm) (f1' f2' : Nat → Value), e = .returned (.bool ch) ∧ Rch n [p, q] [p', q'] ∧
      (∀ k, 1 ≤ k → k < n → q'.start k → p'.fin k) ∧ (ch = false → p' = p ∧ q' = q) ∧ (ch = true → Rch1 n [p, q] [p', q']) ∧ RowP n w' g1 c1 p' f1' ∧ RowP n w' g2 c2 q' f2' ∧ Tch (fun b => b = g1 ∨ b = g2) w w' := by
  have H1 := Lib.hid h1
  have H2 := Lib.hid h2
  have HAO := Lib.hid (show AllOn n [p, q] by intro r hr; simp at hr; rcases hr with rfl | rfl; exact hpo; exact hqo)
  have hz1 := h1.lt
  have hz2 := h2.lt
  have hm1 := h1.cap
  have hm2 := h2.cap
  have hl1 := h1.le
  have hl2 := h2.le
  unfold maxLen at hm1 hm2
  clear h1 h2
  go_enter Try.func105, Try.ntmps105
  go_wp2
  go_loopg [5] (mes n [p, q]) (fun gk an wr => ∃ (ch : Bool) (a b : Pm) (F G : Nat → Value), an = .bool ch ∧ Hid (gk = mes n [a, b]) ∧ Hid (Rch n [p, q] [a, b]) ∧ Hid (ch = false → a = p ∧ b = q) ∧ Hid (ch = true → Rch1 n [p, q] [a, b]) ∧ Hid (RowP n wr g1 c1 a F) ∧ Hid (RowP n wr g2 c2 b G) ∧ Hid (Tch (fun b => b = g1 ∨ b = g2) w wr))
  case atStart => exact ⟨false, p, q, f1, f2, rfl, rfl, .refl, fun _ => ⟨rfl, rfl⟩, fun h => (by cases h), H1.out, H2.out, Tch.refl _ _⟩
  case round =>
    obtain ⟨ch, a, b, F, G, rfl, HG, HR, HF, HT, HA, HB, HW⟩ := hrel
    obtain ⟨gko, rfl⟩ : ∃ x : Nat, x = gk := ⟨_, rfl⟩
    obtain ⟨wo, rfl⟩ : ∃ x : World, x = wr := ⟨_, rfl⟩
    have HON := Lib.hid (HAO.out.rch HR.out)
    have HQ := Lib.hid (missing_any n (by omega) hn a b (HON.out a (by simp)) _ _ wo HA.out.rd HB.out.rd)
    by_cases hz : exP n a b = 0
    · have HZ := Lib.hid (exP_zero hz)
      rw [hz] at HQ
      clear hz
      go_wp2_with fail
      refine HQ.out.mono ?_
      rintro e w1 ⟨rfl, hb1⟩
      have HB1 := Lib.hid hb1
      clear hb1
      go_wp2
      go_ret
      exact ⟨ch, a, b, F, G, rfl, HR.out, HZ.out, HF.out, HT.out, HA.out.block (HB1.out.block _ HA.out.lt), HB.out.block (HB1.out.block _ HB.out.lt), HW.out.trans (Tch.of_below HB1.out)⟩
    · obtain ⟨k, hk, hk1, hkn, hks, hkf⟩ := exP_pos hz
      rw [hk] at HQ
      have HMV := Lib.hid (show Mv n [a, b] [a.behind k hk1, b.before k hk1] from .here k hk1 hkn hks hkf)
      have HMS := Lib.hid (mes_mv HON.out HMV.out)
      obtain ⟨j, rfl⟩ : ∃ j, k = j + 1 := ⟨k - 1, by omega⟩
      clear hk hks hkf hz
      go_wp2_with fail
      refine HQ.out.mono ?_
      rintro e w1 ⟨rfl, hb1⟩
      have HB1 := Lib.hid hb1
      have HA1 := Lib.hid (HA.out.block (hb1.block _ HA.out.lt))
      have HBB1 := Lib.hid (HB.out.block (hb1.block _ HB.out.lt))
      have HW1 := Lib.hid (HW.out.trans (Tch.of_below (S := fun b => b = g1 ∨ b = g2) hb1))
      clear hb1
      go_wp2
      go_loopg [17] n (fun gm i wi => ∃ (m : Nat) (F1 : Nat → Value), gm = n - m ∧ m ≤ n ∧ i = .int .i64 m ∧ Hid (wi.rowIs g1 2 c1 F1) ∧ Hid (∀ i, i < n → F1 i = .int .i64 (((if i < m then Pm.sw (j + 1) (a.f i) else a.f i) : Nat) : Int)) ∧ Hid (Only g1 (g1 + 1) w1 wi))
      case atStart => exact ⟨0, F, rfl, Nat.zero_le _, rfl, HA1.out.row, fun i hi => by rw [if_neg (by omega)]; exact HA1.out.eq i hi, Only.refl _ _ _⟩
      case round =>
        obtain ⟨m, F1, rfl, hm, rfl, HR1, HF1, HO1⟩ := hrel
        obtain ⟨wi, rfl⟩ : ∃ x : World, x = wr := ⟨_, rfl⟩
        by_cases hlt : m < n
        · have d0 := HR1.out.cell (i := m) (by omega)
          rw [HF1.out m hlt, if_neg (by omega)] at d0
          have g0 := fun i => HR1.out.frozen i
          have HN : Hid (∀ F' : Nat → Value, F' m = .int .i64 ((Pm.sw (j + 1) (a.f m) : Nat) : Int) → (∀ i, i ≠ m → F' i = F1 i) → ∀ i, i < n → F' i = .int .i64 (((if i < m + 1 then Pm.sw (j + 1) (a.f i) else a.f i) : Nat) : Int)) := by
            intro F' h1 h2 i hi
            by_cases h3 : i = m
            · subst h3; rw [if_pos (by omega)]; exact h1
            · rw [h2 i h3, HF1.out i hi]
              by_cases h4 : i < m
              · rw [if_pos h4, if_pos (by omega)]
              · rw [if_neg h4, if_neg (by omega)]
          have HFm := Lib.hid (HF1.out m hlt)
          rw [if_neg (by omega)] at HFm
          generalize hx : a.f m = x at d0 HN HFm
          clear hx
          by_cases h1 : x = j
          · have HV := Lib.hid (show (Pm.sw (j + 1) x : Nat) = j + 1 by rw [h1]; have := Pm.sw_l (k := j + 1) (by omega); rw [Nat.add_sub_cancel] at this; exact this)
            subst h1
            have b3 : ((x : Int) == (x : Int) + 1) = false := by simp; omega
            go_wp2
            go_roundg (n - (m + 1))
            case measure => omega
            case rel => exact ⟨m + 1, _, rfl, by omega, by go_num, HR1.out.set m _, HN.out _ (by show (if m = m then _ else _) = _; rw [if_pos rfl, HV.out]; rfl) (fun i hi => by show (if i = m then _ else _) = _; rw [if_neg hi]), HO1.out.setCell (Nat.le_refl _) (Nat.lt_succ_self _) _⟩
          · by_cases h2 : x = j + 1
            · have HV := Lib.hid (show (Pm.sw (j + 1) x : Nat) = j by rw [h2, Pm.sw_r]; simp)
              subst h2
              have b1 : (((j : Int) + 1) == (j : Int)) = false := by simp; omega
              go_wp2
              go_roundg (n - (m + 1))
              case measure => omega
              case rel => exact ⟨m + 1, _, rfl, by omega, by go_num, HR1.out.set m _, HN.out _ (by show (if m = m then _ else _) = _; rw [if_pos rfl, HV.out]; try simp) (fun i hi => by show (if i = m then _ else _) = _; rw [if_neg hi]), HO1.out.setCell (Nat.le_refl _) (Nat.lt_succ_self _) _⟩
            · have b1 : ((x : Int) == (j : Int)) = false := by simp; omega
              have b2 : ((x : Int) == (j : Int) + 1) = false := by simp; omega
              have HV := Lib.hid (show (Pm.sw (j + 1) x : Nat) = x by rw [Pm.sw_o h2 (by omega)])
              clear h1 h2
              go_wp2
              go_roundg (n - (m + 1))
              case measure => omega
              case rel => exact ⟨m + 1, F1, rfl, by omega, by go_num, HR1.out, HN.out F1 (by rw [HV.out]; exact HFm.out) (fun i hi => rfl), HO1.out⟩
        · obtain rfl : m = n := by omega
          have HP2 := Lib.hid (show RowP m wi g1 c1 (a.behind (j + 1) hk1) F1 from ⟨HR1.out, hl1, HA1.out.cap, fun i hi => by rw [HF1.out i hi, if_pos hi]; rfl⟩)
          have HQ2 := Lib.hid (HBB1.out.block (HO1.out.block g2 HBB1.out.lt (by omega)))
          have d0 := HQ2.out.row.cell (i := j) (by omega)
          have d1 := HQ2.out.row.cell (i := j + 1) (by omega)
          have g0 := fun i => HQ2.out.row.frozen i
          rw [HQ2.out.eq j (by omega)] at d0
          rw [HQ2.out.eq (j + 1) (by omega)] at d1
          have HE := Lib.hid HQ2.out.eq
          have HBF : Hid (∀ F' : Nat → Value, F' j = .int .i64 ((b.f (j + 1) : Nat) : Int) → F' (j + 1) = .int .i64 ((b.f j : Nat) : Int) → (∀ i, i ≠ j → i ≠ j + 1 → F' i = G i) → ∀ i, i < m → F' i = .int .i64 (((b.before (j + 1) hk1).f i : Nat) : Int)) := by
            intro F' h1 h2 h3 i hi
            show _ = Value.int .i64 ((b.f (Pm.sw (j + 1) i) : Nat) : Int)
            by_cases e1 : i = j + 1
            · subst e1; rw [Pm.sw_r, h2]; rfl
            · by_cases e2 : i = j
              · subst e2
                have := Pm.sw_l (k := i + 1) (by omega)
                rw [Nat.add_sub_cancel] at this
                rw [this, h1]
              · rw [Pm.sw_o e1 (by omega), h3 i e2 e1, HE.out i hi]
          generalize b.f (j + 1) = y at d1 HBF
          generalize b.f j = x at d0 HBF
          have hja : (j : Int) + 1 < m := by omega
          have hne1 : ¬ j = j + 1 := by omega
          have hne2 : ¬ j + 1 = j := by omega
          go_wp2
          go_region
          all_goals
            go_wp2
            go_roundg (mes m [a.behind (j + 1) hk1, b.before (j + 1) hk1])
            case measure => rw [HG.out]; exact HMS.out
            case rel =>
              refine ⟨true, _, _, F1, _, rfl, rfl, HR.out.trans (.one HMV.out), fun h => (by cases h), fun _ => Rch1.snoc HR.out HMV.out, ?_, ⟨((HQ2.out.row.set j (.int .i64 (y : Int))).set (j + 1) (.int .i64 (x : Int))).drew, hl2, HQ2.out.cap, HBF.out _ ?_ ?_ ?_⟩, ?_⟩
              · exact HP2.out.block (((Only.refl g2 (g2 + 1) wi).setCell (p := ⟨g2, j, none⟩) (Nat.le_refl _) (Nat.lt_succ_self _) _).setCell (p := ⟨g2, j + 1, none⟩) (Nat.le_refl _) (Nat.lt_succ_self _) _ |>.block g1 HP2.out.lt (by omega))
              · show (if j = j + 1 then _ else if j = j then _ else _) = _
                rw [if_neg hne1, if_pos rfl]
              · show (if j + 1 = j + 1 then _ else _) = _
                rw [if_pos rfl]
              · intro i h1 h2
                show (if i = j + 1 then _ else if i = j then _ else _) = _
                rw [if_neg h2, if_neg h1]
              · exact ((((HW1.out.trans (Tch.of_only HO1.out fun k h1 h2 => .inl (by omega))).setCell (p := ⟨g2, j, none⟩) (.inr rfl) _).setCell (p := ⟨g2, j + 1, none⟩) (.inr rfl) _)).drew

end Go.Proofs.Ytfeonaocmnpkcaa
