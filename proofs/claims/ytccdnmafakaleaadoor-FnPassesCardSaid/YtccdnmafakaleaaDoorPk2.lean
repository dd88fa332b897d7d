/-
  Texts joined: Ps, Ps1, Ps2, Sz, Ps3, Span, Span2.
-/
import Derived.Test.YtccdnmafakaleaaDoorPk1
import Derived.Test.YtccdnmafakaleaaDoorSpot
import Derived.Test.YtccdnmafakaleaaDoorAppend
import Derived.Test.YtccdnmafakaleaaDoorOwn
import Derived.Test.YtccdnmafakaleaaDoorOpen
import Derived.Test.YtccdnmafakaleaaDoorNest
import Derived.Test.YtccdnmafakaleaaDoorNst
import Derived.OwnWalk
import Derived.Deep.RegionWith
import Derived.Deep.Cut
import Derived.BigQuiet
/-
  The passes of operations: the plain law, and small functions.
-/
namespace Go.Proofs.YtccdnmafakaleaaDoor
set_option linter.unusedVariables false
set_option linter.unusedSimpArgs false
open Go.RowKit

/-- The kind of passes of an operation's kind. -/
def psK (k : Int) : Int := if k = 1 ∨ k = 2 ∨ k = 3 ∨ k = 5 then 1 else if k = 4 then 2 else if k = 6 then 3 else 0
def psFit (p : Pas) (o : Opr) (kd pl q : Int) : Bool := decide (p.k = kd) && (decide (p.d = o.d) && (decide (p.c = o.c) && (decide (kd ≠ 1) || decide (0 < (pl - q) * o.d))))
def bump (p : Pas) : Pas := ⟨p.k, p.d, p.c, p.r, p.f, p.n + 1⟩
def psPush (k : Nat) (r : Int) (acc : List Pas) (o : Opr) : List Pas := acc ++ [⟨psK o.k, o.d, o.c, r, k, 1⟩]
def psOne (k : Nat) (r q : Int) (acc : List Pas) (o : Opr) : Option Pas → List Pas
  | some p => if psFit p o (psK o.k) (plc o.fb o.fa r) q = true then acc.dropLast ++ [bump p] else psPush k r acc o
  | none => psPush k r acc o
def psAcc (k : Nat) (r : Int) (acc : List Pas) (o : Opr) : Option Int → List Pas
  | some q => psOne k r q acc o acc.getLast?
  | none => psPush k r acc o
def psGo : Nat → Int → Option Int → List Pas → List Opr → List Pas
  | _, _, _, acc, [] => acc
  | k, r, lt, acc, o :: t => if psK o.k = 0 then psGo (k + 1) (if o.k = 7 then o.r else r) none acc t else psGo (k + 1) r (some (plc o.fb o.fa r)) (psAcc k r acc o lt) t
def psL (l : List Opr) : List Pas := psGo 0 0 none [] l
section
variable {R : List Pas} {k : Nat} {r : Int} {lt : Option Int} {acc : List Pas} {l : List Opr} {o : Opr}
theorem ps_zero (h : R = psGo k r lt acc (l.drop k)) (ho : l[k]? = some o) (hz : psK o.k = 0) : R = psGo (k + 1) (if o.k = 7 then o.r else r) none acc (l.drop (k + 1)) := by
  rw [h, drop_of_get ho, psGo, if_pos hz]
theorem ps_none (h : R = psGo k r none acc (l.drop k)) (ho : l[k]? = some o) (hz : psK o.k ≠ 0) : R = psGo (k + 1) r (some (plc o.fb o.fa r)) (acc ++ [⟨psK o.k, o.d, o.c, r, k, 1⟩]) (l.drop (k + 1)) := by
  rw [h, drop_of_get ho, psGo, if_neg hz]
  rfl
theorem ps_fit {q : Int} {ys : List Pas} {p : Pas} (h : R = psGo k r (some q) (ys ++ [p]) (l.drop k)) (ho : l[k]? = some o) (hz : psK o.k ≠ 0) (hf : psFit p o (psK o.k) (plc o.fb o.fa r) q = true) : R = psGo (k + 1) r (some (plc o.fb o.fa r)) (ys ++ [bump p]) (l.drop (k + 1)) := by
  rw [h, drop_of_get ho, psGo, if_neg hz]
  unfold psAcc
  simp only
  rw [List.getLast?_concat]
  unfold psOne
  simp only [hf, if_true, List.dropLast_concat]
theorem ps_not {q : Int} {ys : List Pas} {p : Pas} (h : R = psGo k r (some q) (ys ++ [p]) (l.drop k)) (ho : l[k]? = some o) (hz : psK o.k ≠ 0) (hf : psFit p o (psK o.k) (plc o.fb o.fa r) q = false) : R = psGo (k + 1) r (some (plc o.fb o.fa r)) (ys ++ [p] ++ [⟨psK o.k, o.d, o.c, r, k, 1⟩]) (l.drop (k + 1)) := by
  rw [h, drop_of_get ho, psGo, if_neg hz]
  unfold psAcc
  simp only
  rw [List.getLast?_concat]
  unfold psOne
  simp only [hf]
  rfl
theorem ps_end (h : R = psGo k r lt acc (l.drop k)) (hk : l.length ≤ k) : R = acc := by
  rw [h, List.drop_of_length_le hk, psGo]
end
theorem psK_cases (k : Int) : psK k = 0 ∨ psK k = 1 ∨ psK k = 2 ∨ psK k = 3 := by unfold psK; split <;> (try split) <;> (try split) <;> omega
theorem vPs_snoc (l : List Pas) (x : Pas) : vPs (l ++ [x]) = vPs l ++ x.cells := by simp [vS]
theorem vPs_len (l : List Pas) : (vPs l).length = l.length * 6 := vS_len Pas.len l
theorem vPs_last (ys : List Pas) (p : Pas) {j : Nat} (hj : j < 6) : (vPs (ys ++ [p]))[ys.length * 6 + j]? = p.cells[j]? := vS_get Pas.len (ys ++ [p]) ys.length p (by simp) j hj
theorem vPs_bump (ys : List Pas) (p : Pas) : (vPs (ys ++ [p])).set (ys.length * 6 + 5) (.int .i64 (p.n + 1)) = vPs (ys ++ [bump p]) := by
  rw [vPs_snoc, vPs_snoc, List.set_append_right _ _ (by rw [vPs_len]; omega), vPs_len, show ys.length * 6 + 5 - ys.length * 6 = 5 by omega]
  rfl
/-- What is known of a valid operation. -/
theorem okOp_rng {o : Opr} (h : okOp o = true) : -3 ≤ o.r ∧ o.r ≤ 3 ∧ (psK o.k ≠ 0 → 0 ≤ o.fa ∧ o.fa ≤ 23) ∧ (psK o.k = 1 → o.d = 1 ∨ o.d = -1) ∧ (psK o.k = 2 ∨ psK o.k = 3 → o.d = 0 ∧ o.c = 0) := by
  obtain ⟨k, d, fb, fa, tb, ta, c, r⟩ := o
  have nd : ∀ {b a : Int}, ndB b a = true → 0 ≤ a ∧ a ≤ 23 := fun {b a} h => by
    unfold ndB at h
    simp only [Bool.and_eq_true] at h
    exact inB_iff.1 h.2
  have dr : ∀ {d : Int}, dirM d = true → d = 1 ∨ d = -1 := fun {d} h => by unfold dirM at h; simpa using h
  unfold okOp at h
  simp only at h ⊢
  split at h
  · rename_i hk
    simp only [Bool.and_eq_true, decide_eq_true_eq] at h
    obtain ⟨h1, h2, h3, h4, h5⟩ := h
    have hpk : psK k = 1 := by unfold psK; rw [if_pos (by omega)]
    exact ⟨by omega, by omega, fun _ => nd h2, fun _ => dr h1, fun h => by omega⟩
  split at h
  · rename_i hk1 hk
    simp only [Bool.and_eq_true, decide_eq_true_eq] at h
    obtain ⟨⟨h1, h2, h3⟩, h4, h5, h6⟩ := h
    exact ⟨by omega, by omega, fun _ => nd h1, fun hp => by subst hk; simp [psK] at hp, fun _ => ⟨h4, h5⟩⟩
  split at h
  · rename_i hk1 hk2 hk
    simp only [Bool.and_eq_true, decide_eq_true_eq] at h
    obtain ⟨⟨h1, h2, h3⟩, h4, h5, h6⟩ := h
    exact ⟨by omega, by omega, fun _ => nd h1, fun _ => dr h4, fun hp => by subst hk; simp [psK] at hp⟩
  split at h
  · rename_i hk1 hk2 hk3 hk
    simp only [Bool.and_eq_true, decide_eq_true_eq, Opr.mk.injEq] at h
    obtain ⟨h1, h2⟩ := h
    exact ⟨by omega, by omega, fun _ => nd h1, fun hp => by subst hk; simp [psK] at hp, fun _ => ⟨by omega, by omega⟩⟩
  split at h
  · rename_i hk1 hk2 hk3 hk4 hk
    simp only [Bool.and_eq_true, decide_eq_true_eq] at h
    have := inB_iff.1 h.1
    exact ⟨this.1, this.2, fun hp => by subst hk; simp [psK] at hp, fun hp => by subst hk; simp [psK] at hp, fun hp => by subst hk; simp [psK] at hp⟩
  split at h
  · rename_i hk1 hk2 hk3 hk4 hk5 hk
    simp only [Bool.and_eq_true, decide_eq_true_eq, Opr.mk.injEq] at h
    exact ⟨by omega, by omega, fun hp => by subst hk; simp [psK] at hp, fun hp => by subst hk; simp [psK] at hp, fun hp => by subst hk; simp [psK] at hp⟩
  split at h
  · rename_i hk1 hk2 hk3 hk4 hk5 hk6 hk
    simp only [Bool.and_eq_true, decide_eq_true_eq, Opr.mk.injEq] at h
    exact ⟨by omega, by omega, fun hp => by subst hk; simp [psK] at hp, fun hp => by subst hk; simp [psK] at hp, fun hp => by subst hk; simp [psK] at hp⟩
  · simp at h
theorem ops_at {n : Int} {l : List Opr} {k : Nat} {x : Opr} (h : opsB n l = true) (hx : l[k]? = some x) : okOp x = true := by
  unfold opsB at h
  simp only [Bool.and_eq_true] at h
  have := List.all_eq_true.1 h.2.2 x (List.mem_of_getElem? hx)
  unfold okOpW at this
  simp only [Bool.and_eq_true] at this
  exact this.1
theorem ops_len {n : Int} {l : List Opr} (h : opsB n l = true) : l.length ≤ 1500 := by
  unfold opsB at h
  simp only [Bool.and_eq_true, decide_eq_true_eq] at h
  exact h.2.1

theorem passKind_any (k : Int) (w : World) : Calls Tryd.prog 82 #[.int .i64 k] w fun e w' => e = .returned (.int .i64 (psK k)) ∧ w = w' := by
  unfold psK
  go_enter Tryd.func82, Tryd.ntmps82
  go_wp2
  all_goals go_ret
  all_goals exact ⟨ret_int (by simp_all), rfl⟩

end Go.Proofs.YtccdnmafakaleaaDoor

/-
  The passes of operations, of the program.
-/
namespace Go.Proofs.YtccdnmafakaleaaDoor
set_option linter.unusedVariables false
set_option linter.unusedSimpArgs false
open Go.RowKit

theorem plc_rngP (b a r : Int) (h0 : 0 ≤ a) (h1 : a ≤ 23) (h2 : -3 ≤ r) (h3 : r ≤ 3) : -3 ≤ plc b a r ∧ plc b a r ≤ 26 := by unfold plc; split <;> omega
/-- What a passed pass counts. -/
theorem cnt_bump {ys : List Pas} {p : Pas} {k : Nat} (h : ∀ x ∈ ys ++ [p], 0 ≤ x.n ∧ x.n ≤ (k : Int)) : ∀ x ∈ ys ++ [bump p], 0 ≤ x.n ∧ x.n ≤ ((k + 1 : Nat) : Int) := fun x hx => by
  rcases List.mem_append.1 hx with h1 | h1
  · have := h x (List.mem_append_left _ h1); omega
  · simp at h1
    subst h1
    have := h p (by simp)
    simp only [bump]
    omega
theorem cnt_push {acc : List Pas} {p : Pas} {k : Nat} (h : ∀ x ∈ acc, 0 ≤ x.n ∧ x.n ≤ (k : Int)) (hp : p.n = 1) : ∀ x ∈ acc ++ [p], 0 ≤ x.n ∧ x.n ≤ ((k + 1 : Nat) : Int) := fun x hx => by
  rcases List.mem_append.1 hx with h1 | h1
  · have := h x h1; omega
  · simp at h1
    subst h1
    omega
theorem cnt_keep {acc : List Pas} {k : Nat} (h : ∀ x ∈ acc, 0 ≤ x.n ∧ x.n ≤ (k : Int)) : ∀ x ∈ acc, 0 ≤ x.n ∧ x.n ≤ ((k + 1 : Nat) : Int) := fun x hx => by have := h x hx; omega

set_option maxHeartbeats 8000000 in
set_option maxRecDepth 100000 in
theorem passes_any (n : Int) (v : Value) (l : List Opr) (w : World) (hl : RdO w w.heap.size v l) (hok : opsB n l = true) : Calls Tryd.prog 45 #[v] w (GivesOw w 46 6 (psL l).length (vPs (psL l))) := by
  obtain ⟨A, N, c, rfl, hln, hl', gl⟩ := hl
  have hN : N ≤ 1500 := by have := ops_len hok; have := hl'.out; omega
  have GL := Lib.hid gl
  have HLN := Lib.hid hl'.out
  have HOK := Lib.hid (fun (k : Nat) (x : Opr) (hx : l[k]? = some x) => okOp_rng (ops_at hok hx))
  obtain ⟨ip, hip, hp0, hp1, hp2⟩ := info_parts info_ps
  generalize hR : psL l = R
  have HR := Lib.hid (show R = psGo 0 0 none [] (l.drop 0) by rw [← hR]; rfl)
  clear gl hl' hok hR
  go_enter Tryd.func45, Tryd.ntmps45
  go_wp2
  go_loopw [3, 4, 5, 14] (fun out rk op i wr => ∃ (k : Nat) (r : Int) (lt : Option Int) (acc : List Pas), k ≤ N ∧ i = .int .i64 k ∧ rk = .int .i64 r ∧ -3 ≤ r ∧ r ≤ 3 ∧ op = .bool lt.isSome ∧ Hid (wr.ownsRow w.heap.size 46 6 out acc.length (vPs acc)) ∧ acc.length ≤ k ∧ Hid (R = psGo k r lt acc (l.drop k)) ∧
    Hid (∀ q, lt = some q → 0 < k ∧ (∃ ys p, acc = ys ++ [p]) ∧ ∃ y, l[k - 1]? = some y ∧ q = plc y.fb y.fa r ∧ 0 ≤ y.fa ∧ y.fa ≤ 23) ∧ Hid (∀ x ∈ acc, 0 ≤ x.n ∧ x.n ≤ (k : Int)) ∧ Hid (Below w.heap.size w wr)) (fun _ _ _ i _ => N - (intOf i).toNat)
  case atStart => exact ⟨0, 0, none, [], Nat.zero_le _, rfl, rfl, by omega, by omega, rfl, World.ownsRow_lit _ _ _ (Nat.le_refl _) (by unfold maxLen; omega) rfl, Nat.le_refl _, HR.out, (fun q hq => by cases hq), (fun x hx => by simp at hx), (Below.refl _ _).alloc (Nat.le_refl _) _⟩
  case round =>
    rename_i wr
    obtain ⟨k, r, lt, acc, hk, rfl, rfl, r0, r1, rfl, HO, hak, HD, HLT, HCN, HB⟩ := hrel
    have hsz := HB.out.size
    by_cases hlt : k < N
    · obtain ⟨b, off, x, rfl, hbb, hlk, hc⟩ := GL.out k hlt
      obtain ⟨g1, g2, g3, g4, g5⟩ := HOK.out k x hlk
      have hcw := hc.below HB.out hbb
      have hblt : b < wr.heap.size := Nat.lt_of_lt_of_le hbb hsz
      obtain ⟨c0, c1, c2, c3, c4, c5, c6, c7⟩ := hcw.eight
      have HLK := Lib.hid hlk
      have HBA := Lib.hid (show Below w.heap.size w (wr.alloc (.cells #[.int .i64 x.k, .int .i64 x.d, .int .i64 x.fb, .int .i64 x.fa, .int .i64 x.tb, .int .i64 x.ta, .int .i64 x.c, .int .i64 x.r] 52)) from HB.out.alloc hsz _)
      have HQK := Lib.hid (fun w' => passKind_any x.k w')
      by_cases h0 : psK x.k = 0
      · have HN := Lib.hid (ps_zero HD.out hlk h0)
        rw [h0] at HQK
        by_cases h7 : x.k = 7
        · rw [if_pos h7] at HN
          have h7' : (x.k == 7) = true := by simpa using h7
          clear hc hlk hcw h7 h0 g3 g4 g5
          go_wp2_with fail
          refine (HQK.out _).mono ?_
          rintro e w1 ⟨rfl, rfl⟩
          go_wp2
          exact ⟨⟨k + 1, x.r, none, acc, by omega, by go_num, rfl, g1, g2, rfl, HO.out.alloc _, by omega, HN.out, (fun q hq => by cases hq), cnt_keep HCN.out, HBA.out⟩, by simp [intOf]; omega⟩
        · rw [if_neg h7] at HN
          have h7' : (x.k == 7) = false := by simpa using h7
          clear hc hlk hcw h7 h0 g3 g4 g5
          go_wp2_with fail
          refine (HQK.out _).mono ?_
          rintro e w1 ⟨rfl, rfl⟩
          go_wp2
          exact ⟨⟨k + 1, r, none, acc, by omega, by go_num, rfl, r0, r1, rfl, HO.out.alloc _, by omega, HN.out, (fun q hq => by cases hq), cnt_keep HCN.out, HBA.out⟩, by simp [intOf]; omega⟩
      · obtain ⟨g6, g7⟩ := g3 h0
        have h7' : (x.k == 7) = false := by
          have : x.k ≠ 7 := fun e => h0 (by rw [e]; rfl)
          simpa using this
        have hkc := psK_cases x.k
        have HZ := Lib.hid h0
        have hz' : (psK x.k == 0) = false := by simpa using h0
        have HG4 := Lib.hid g4
        have HX := Lib.hid (show ∀ q, some (plc x.fb x.fa r) = some q → 0 < k + 1 ∧ ((∃ ys p, acc ++ [⟨psK x.k, x.d, x.c, r, k, 1⟩] = ys ++ [p]) ∧ ∃ y, l[k + 1 - 1]? = some y ∧ q = plc y.fb y.fa r ∧ 0 ≤ y.fa ∧ y.fa ≤ 23) from fun q hq => ⟨by omega, ⟨acc, _, rfl⟩, x, hlk, by injection hq with hq; exact hq.symm, g6, g7⟩)
        cases lt with
        | none =>
          have HN := Lib.hid (ps_none HD.out hlk h0)
          clear hc hlk hcw h0 g3 g4 g5
          generalize plc x.fb x.fa r = pl at *
          generalize psK x.k = kd at *
          go_wp2_with fail
          refine (HQK.out _).mono ?_
          rintro e w1 ⟨rfl, rfl⟩
          have HOA := Lib.hid (HO.out.alloc (.cells #[.int .i64 x.k, .int .i64 x.d, .int .i64 x.fb, .int .i64 x.fa, .int .i64 x.tb, .int .i64 x.ta, .int .i64 x.c, .int .i64 x.r] 52))
          -- a pass more, behind acc; HOA: the row of passes at the world here; HBA: what stands there; wr.heap.size + 1: the next block's number
          go_wp2_with (at_builtin; refine wpList_append_own _ rfl _ _ 41 rfl w.heap.size 46 ip _ 6 48 Tryd.underlying41 hip hp0 hp1 hp2 rfl (by decide) _ _ _ rfl (HOA.out.alloc _) ⟨wr.heap.size + 1, 0, none⟩ 1 1 (⟨kd, x.d, x.c, r, k, 1⟩ : Pas).cells rfl rfl ?c1 ?c2 ?c3 ?c4 ?c5 ?_)
          case c1 => exact new_cells' _ _ (by simp [World.drewN])
          case c2 => intro u hu; simp at hu; rcases hu with rfl | rfl | rfl | rfl | rfl | rfl <;> rfl
          case c3 => unfold maxLen; omega
          case c4 => omega
          case c5 => have := HBA.out.size; simp; omega
          intro v' w2 hown2 hgrow2 _
          have HB2 := Lib.hid ((HBA.out.alloc HBA.out.size _).grown hgrow2 (by have := HBA.out.size; simp; omega) (fun g hg => (HO.out.lt g hg).1))
          have HO2 : Hid (w2.ownsRow w.heap.size 46 6 v' (acc ++ ([⟨kd, x.d, x.c, r, k, 1⟩] : List Pas)).length (vPs (acc ++ ([⟨kd, x.d, x.c, r, k, 1⟩] : List Pas)))) := by unfold Hid; rw [vPs_snoc]; simp only [List.length_append, List.length_singleton]; exact hown2
          clear hown2 hgrow2
          go_wp2
          exact ⟨⟨k + 1, r, some pl, acc ++ ([⟨kd, x.d, x.c, r, k, 1⟩] : List Pas), by omega, by go_num, rfl, r0, r1, rfl, HO2.out, by simp; omega, HN.out, HX.out, cnt_push HCN.out rfl, HB2.out⟩, by simp [intOf]; omega⟩
        | some q =>
          obtain ⟨hk0, ⟨ys, p, rfl⟩, y, hy, hq, y0, y1⟩ := HLT.out q rfl
          have HF := Lib.hid (fun hf => ps_fit HD.out hlk h0 hf)
          have HNF := Lib.hid (fun hf => ps_not HD.out hlk h0 hf)
          obtain ⟨j, hj⟩ : ∃ j, k = j + 1 := ⟨k - 1, by omega⟩
          rw [show k - 1 = j by omega] at hy
          have hkj : (k : Int) - 1 = (j : Int) := by omega
          have hj0 : (0 : Int) ≤ (j : Int) := by omega
          have hj1 : (j : Int) < (N : Int) := by omega
          obtain ⟨b', off', y', e, hbb', hlk', hc'⟩ := GL.out j (by omega)
          injection e with e
          injection e with e1 e2
          subst e1 e2
          have hyy : y = y' := by rw [hy] at hlk'; injection hlk'
          subst hyy
          have hyl : (ys ++ [p]).length = ys.length + 1 := by simp
          have HO0 := HO.out
          rw [hyl] at HO0
          obtain ⟨go, cap, rfl, hgB, hgw, hcap, -⟩ := row_slice HO0 (by omega)
          have hpc : CellsAt wr go (ys.length * 6) p.cells := fun i u hu => by
            have hi : i < 6 := (List.getElem?_eq_some_iff.1 hu).1
            exact (own_cellx HO0 (i := ys.length * 6 + i) (by rw [vPs_last _ _ hi]; exact hu)).1
          have hfz := (own_cellx HO0 (i := ys.length * 6 + 0) (by rw [vPs_last _ _ (by omega)]; rfl)).2.1
          have hpn := HCN.out p (by simp)
          have hcbox : CellsAt (wr.alloc (.cells #[.int .i64 x.k, .int .i64 x.d, .int .i64 x.fb, .int .i64 x.fa, .int .i64 x.tb, .int .i64 x.ta, .int .i64 x.c, .int .i64 x.r] 52)) wr.heap.size 0 x.cells := CellsAt.of_alloc
          have hcy := (hc'.below HB.out hbb').alloc hblt (.cells #[.int .i64 x.k, .int .i64 x.d, .int .i64 x.fb, .int .i64 x.fa, .int .i64 x.tb, .int .i64 x.ta, .int .i64 x.c, .int .i64 x.r] 52)
          have hcp := hpc.alloc hgw (.cells #[.int .i64 x.k, .int .i64 x.d, .int .i64 x.fb, .int .i64 x.fa, .int .i64 x.tb, .int .i64 x.ta, .int .i64 x.c, .int .i64 x.r] 52)
          obtain ⟨p0, p1, p2, p3, p4, p5⟩ := hpc.six
          have HPC := Lib.hid hcp
          have HBOX := Lib.hid hcbox
          have HOA := Lib.hid (HO.out.alloc (.cells #[.int .i64 x.k, .int .i64 x.d, .int .i64 x.fb, .int .i64 x.fa, .int .i64 x.tb, .int .i64 x.ta, .int .i64 x.c, .int .i64 x.r] 52))
          rw [hyl] at HO HOA
          have hal : ys.length + 1 ≤ k := by rw [← hyl]; exact hak
          obtain ⟨e0, e1, e2, e3, e4, e5, e6, e7⟩ := hcbox.grow8
          obtain ⟨f0, f1, f2, f3, f4, f5, f6, f7⟩ := hcy.grow8
          have hpl := plc_rngP x.fb x.fa r g6 g7 r0 r1
          have hql := plc_rngP y.fb y.fa r y0 y1 r0 r1
          rw [← hq] at hql
          have HQ1 := Lib.hid (fun X => place_any x.fb x.fa r (by omega) (by omega) (by omega) (by omega) (wgrow (wr.alloc (.cells #[.int .i64 x.k, .int .i64 x.d, .int .i64 x.fb, .int .i64 x.fa, .int .i64 x.tb, .int .i64 x.ta, .int .i64 x.c, .int .i64 x.r] 52)) X))
          have HQ2 := Lib.hid (fun X => place_any y.fb y.fa r (by omega) (by omega) (by omega) (by omega) (wgrow (wr.alloc (.cells #[.int .i64 x.k, .int .i64 x.d, .int .i64 x.fb, .int .i64 x.fa, .int .i64 x.tb, .int .i64 x.ta, .int .i64 x.c, .int .i64 x.r] 52)) X))
          rw [← hq] at HQ2
          clear hak hyl HO0 hc' hlk' hy HLT hc hlk hcw hpc hcp hj hq hcbox hcy
          generalize plc x.fb x.fa r = pl at *
          generalize psK x.k = kd at *
          by_cases a1 : p.k = kd
          case neg =>
            have n1 : (p.k == kd) = false := by simpa using a1
            have HN := Lib.hid (HNF.out (by simp [psFit, a1]))
            clear a1
            by_cases h1 : kd = 1
            · skip
              -- the pass goes on no more
              -- region 14 where the kind is 1
              have n0 : (kd != 1) = false := by simpa using h1
              have hdd : x.d = 1 ∨ x.d = -1 := HG4.out h1
              have hmul : IntKind.i64.wrap ((pl - q) * x.d) = (pl - q) * x.d := by
                rcases hdd with h | h <;> rw [h] <;> exact IntWalk.i64_in _ (by omega)
              clear h1 hdd
              go_wp2_with fail
              refine (HQK.out _).mono ?_
              rintro e w1 ⟨rfl, rfl⟩
              go_wp2
              refine wp_region_grow (by kernel_rfl) (by kernel_rfl) ?_
              repeat (go_big_quiet_step ((first | (go_at_call_of 52 (Value.agg #[.int .i64 x.fb, .int .i64 x.fa]); exact calls_grow (HQ1.out _)) | (go_at_call_of 52 (Value.agg #[.int .i64 y.fb, .int .i64 y.fa]); exact calls_grow (HQ2.out _)))))
              refine wpQuiet_nil ?_
              intro w1 hb1
              -- region 15
              have HB1 := Lib.hid (HBA.out.trans (hb1.mono HBA.out.size))
              have HO1 := Lib.hid (own_below HOA.out hb1)
              clear p0 p1 p2 p3 p4 p5 e0 e1 e2 e3 e4 e5 e6 e7 f0 f1 f2 f3 f4 f5 f6 f7
              obtain ⟨p0, p1, p2, p3, p4, p5⟩ := (HPC.out.below hb1 (by simp; omega)).six
              obtain ⟨e0, e1, e2, e3, e4, e5, e6, e7⟩ := (HBOX.out.below hb1 (by simp)).eight
              have hfz1 : ∀ o, w1.frozen? ⟨go, o, none⟩ = false := (own_cellx HO1.out (i := ys.length * 6 + 0) (by rw [vPs_last _ _ (by omega)]; rfl)).2.1
              clear hb1 hfz
              go_wp2
              go_quiet (fail)
              have HB3 := Lib.hid (below_drewN HB1.out nq)
              have hz3 : w.heap.size ≤ w1.heap.size := HB1.out.size
              -- a pass more, behind (ys ++ [p]); HO1: the row of passes at the world here; HB3: what stands there; w1.heap.size: the next block's number
              go_wp2_with (at_builtin; refine wpList_append_own _ rfl _ _ 41 rfl w.heap.size 46 ip _ 6 48 Tryd.underlying41 hip hp0 hp1 hp2 rfl (by decide) _ _ _ rfl (HO1.out.alloc _) ⟨w1.heap.size, 0, none⟩ 1 1 (⟨kd, x.d, x.c, r, k, 1⟩ : Pas).cells rfl rfl ?c1 ?c2 ?c3 ?c4 ?c5 ?_)
              case c1 => exact new_cells' _ _ (by simp [World.drewN])
              case c2 => intro u hu; simp at hu; rcases hu with rfl | rfl | rfl | rfl | rfl | rfl <;> rfl
              case c3 => unfold maxLen; omega
              case c4 => omega
              case c5 => have := HB3.out.size; simp; omega
              intro v' w2 hown2 hgrow2 _
              have HB2 := Lib.hid ((HB3.out.alloc HB3.out.size _).grown hgrow2 (by have := HB3.out.size; simp; omega) (fun g hg => (HO.out.lt g hg).1))
              have HO2 : Hid (w2.ownsRow w.heap.size 46 6 v' ((ys ++ [p]) ++ ([⟨kd, x.d, x.c, r, k, 1⟩] : List Pas)).length (vPs ((ys ++ [p]) ++ ([⟨kd, x.d, x.c, r, k, 1⟩] : List Pas)))) := by unfold Hid; rw [vPs_snoc]; simp only [List.length_append, List.length_singleton]; exact hown2
              clear hown2 hgrow2
              go_wp2
              exact ⟨⟨k + 1, r, some pl, (ys ++ [p]) ++ ([⟨kd, x.d, x.c, r, k, 1⟩] : List Pas), by omega, by go_num, rfl, r0, r1, rfl, HO2.out, by simp; omega, HN.out, HX.out, cnt_push HCN.out rfl, HB2.out⟩, by simp [intOf]; omega⟩
            · skip
              -- the pass goes on no more
              -- region 14 where the kind is not 1
              have n0 : (kd != 1) = true := by simpa using h1
              clear h1
              go_wp2_with fail
              refine (HQK.out _).mono ?_
              rintro e w1 ⟨rfl, rfl⟩
              go_wp2
              go_quiet (fail)
              have hb1 := below_drewN (Below.refl (wr.alloc (.cells #[.int .i64 x.k, .int .i64 x.d, .int .i64 x.fb, .int .i64 x.fa, .int .i64 x.tb, .int .i64 x.ta, .int .i64 x.c, .int .i64 x.r] 52)).heap.size (wr.alloc (.cells #[.int .i64 x.k, .int .i64 x.d, .int .i64 x.fb, .int .i64 x.fa, .int .i64 x.tb, .int .i64 x.ta, .int .i64 x.c, .int .i64 x.r] 52))) nq
              generalize World.drewN _ _ = w1 at hb1 ⊢
              -- region 15
              have HB1 := Lib.hid (HBA.out.trans (hb1.mono HBA.out.size))
              have HO1 := Lib.hid (own_below HOA.out hb1)
              clear p0 p1 p2 p3 p4 p5 e0 e1 e2 e3 e4 e5 e6 e7 f0 f1 f2 f3 f4 f5 f6 f7
              obtain ⟨p0, p1, p2, p3, p4, p5⟩ := (HPC.out.below hb1 (by simp; omega)).six
              obtain ⟨e0, e1, e2, e3, e4, e5, e6, e7⟩ := (HBOX.out.below hb1 (by simp)).eight
              have hfz1 : ∀ o, w1.frozen? ⟨go, o, none⟩ = false := (own_cellx HO1.out (i := ys.length * 6 + 0) (by rw [vPs_last _ _ (by omega)]; rfl)).2.1
              clear hb1 hfz
              go_wp2
              go_quiet (fail)
              have HB3 := Lib.hid (below_drewN HB1.out nq)
              have hz3 : w.heap.size ≤ w1.heap.size := HB1.out.size
              -- a pass more, behind (ys ++ [p]); HO1: the row of passes at the world here; HB3: what stands there; w1.heap.size: the next block's number
              go_wp2_with (at_builtin; refine wpList_append_own _ rfl _ _ 41 rfl w.heap.size 46 ip _ 6 48 Tryd.underlying41 hip hp0 hp1 hp2 rfl (by decide) _ _ _ rfl (HO1.out.alloc _) ⟨w1.heap.size, 0, none⟩ 1 1 (⟨kd, x.d, x.c, r, k, 1⟩ : Pas).cells rfl rfl ?c1 ?c2 ?c3 ?c4 ?c5 ?_)
              case c1 => exact new_cells' _ _ (by simp [World.drewN])
              case c2 => intro u hu; simp at hu; rcases hu with rfl | rfl | rfl | rfl | rfl | rfl <;> rfl
              case c3 => unfold maxLen; omega
              case c4 => omega
              case c5 => have := HB3.out.size; simp; omega
              intro v' w2 hown2 hgrow2 _
              have HB2 := Lib.hid ((HB3.out.alloc HB3.out.size _).grown hgrow2 (by have := HB3.out.size; simp; omega) (fun g hg => (HO.out.lt g hg).1))
              have HO2 : Hid (w2.ownsRow w.heap.size 46 6 v' ((ys ++ [p]) ++ ([⟨kd, x.d, x.c, r, k, 1⟩] : List Pas)).length (vPs ((ys ++ [p]) ++ ([⟨kd, x.d, x.c, r, k, 1⟩] : List Pas)))) := by unfold Hid; rw [vPs_snoc]; simp only [List.length_append, List.length_singleton]; exact hown2
              clear hown2 hgrow2
              go_wp2
              exact ⟨⟨k + 1, r, some pl, (ys ++ [p]) ++ ([⟨kd, x.d, x.c, r, k, 1⟩] : List Pas), by omega, by go_num, rfl, r0, r1, rfl, HO2.out, by simp; omega, HN.out, HX.out, cnt_push HCN.out rfl, HB2.out⟩, by simp [intOf]; omega⟩
          have n1 : (p.k == kd) = true := by simpa using a1
          by_cases a2 : p.d = x.d
          case neg =>
            have n2 : (p.d == x.d) = false := by simpa using a2
            have HN := Lib.hid (HNF.out (by simp [psFit, a2]))
            clear a1 a2
            by_cases h1 : kd = 1
            · skip
              -- the pass goes on no more
              -- region 14 where the kind is 1
              have n0 : (kd != 1) = false := by simpa using h1
              have hdd : x.d = 1 ∨ x.d = -1 := HG4.out h1
              have hmul : IntKind.i64.wrap ((pl - q) * x.d) = (pl - q) * x.d := by
                rcases hdd with h | h <;> rw [h] <;> exact IntWalk.i64_in _ (by omega)
              clear h1 hdd
              go_wp2_with fail
              refine (HQK.out _).mono ?_
              rintro e w1 ⟨rfl, rfl⟩
              go_wp2
              refine wp_region_grow (by kernel_rfl) (by kernel_rfl) ?_
              repeat (go_big_quiet_step ((first | (go_at_call_of 52 (Value.agg #[.int .i64 x.fb, .int .i64 x.fa]); exact calls_grow (HQ1.out _)) | (go_at_call_of 52 (Value.agg #[.int .i64 y.fb, .int .i64 y.fa]); exact calls_grow (HQ2.out _)))))
              refine wpQuiet_nil ?_
              intro w1 hb1
              -- region 15
              have HB1 := Lib.hid (HBA.out.trans (hb1.mono HBA.out.size))
              have HO1 := Lib.hid (own_below HOA.out hb1)
              clear p0 p1 p2 p3 p4 p5 e0 e1 e2 e3 e4 e5 e6 e7 f0 f1 f2 f3 f4 f5 f6 f7
              obtain ⟨p0, p1, p2, p3, p4, p5⟩ := (HPC.out.below hb1 (by simp; omega)).six
              obtain ⟨e0, e1, e2, e3, e4, e5, e6, e7⟩ := (HBOX.out.below hb1 (by simp)).eight
              have hfz1 : ∀ o, w1.frozen? ⟨go, o, none⟩ = false := (own_cellx HO1.out (i := ys.length * 6 + 0) (by rw [vPs_last _ _ (by omega)]; rfl)).2.1
              clear hb1 hfz
              go_wp2
              go_quiet (fail)
              have HB3 := Lib.hid (below_drewN HB1.out nq)
              have hz3 : w.heap.size ≤ w1.heap.size := HB1.out.size
              -- a pass more, behind (ys ++ [p]); HO1: the row of passes at the world here; HB3: what stands there; w1.heap.size: the next block's number
              go_wp2_with (at_builtin; refine wpList_append_own _ rfl _ _ 41 rfl w.heap.size 46 ip _ 6 48 Tryd.underlying41 hip hp0 hp1 hp2 rfl (by decide) _ _ _ rfl (HO1.out.alloc _) ⟨w1.heap.size, 0, none⟩ 1 1 (⟨kd, x.d, x.c, r, k, 1⟩ : Pas).cells rfl rfl ?c1 ?c2 ?c3 ?c4 ?c5 ?_)
              case c1 => exact new_cells' _ _ (by simp [World.drewN])
              case c2 => intro u hu; simp at hu; rcases hu with rfl | rfl | rfl | rfl | rfl | rfl <;> rfl
              case c3 => unfold maxLen; omega
              case c4 => omega
              case c5 => have := HB3.out.size; simp; omega
              intro v' w2 hown2 hgrow2 _
              have HB2 := Lib.hid ((HB3.out.alloc HB3.out.size _).grown hgrow2 (by have := HB3.out.size; simp; omega) (fun g hg => (HO.out.lt g hg).1))
              have HO2 : Hid (w2.ownsRow w.heap.size 46 6 v' ((ys ++ [p]) ++ ([⟨kd, x.d, x.c, r, k, 1⟩] : List Pas)).length (vPs ((ys ++ [p]) ++ ([⟨kd, x.d, x.c, r, k, 1⟩] : List Pas)))) := by unfold Hid; rw [vPs_snoc]; simp only [List.length_append, List.length_singleton]; exact hown2
              clear hown2 hgrow2
              go_wp2
              exact ⟨⟨k + 1, r, some pl, (ys ++ [p]) ++ ([⟨kd, x.d, x.c, r, k, 1⟩] : List Pas), by omega, by go_num, rfl, r0, r1, rfl, HO2.out, by simp; omega, HN.out, HX.out, cnt_push HCN.out rfl, HB2.out⟩, by simp [intOf]; omega⟩
            · skip
              -- the pass goes on no more
              -- region 14 where the kind is not 1
              have n0 : (kd != 1) = true := by simpa using h1
              clear h1
              go_wp2_with fail
              refine (HQK.out _).mono ?_
              rintro e w1 ⟨rfl, rfl⟩
              go_wp2
              go_quiet (fail)
              have hb1 := below_drewN (Below.refl (wr.alloc (.cells #[.int .i64 x.k, .int .i64 x.d, .int .i64 x.fb, .int .i64 x.fa, .int .i64 x.tb, .int .i64 x.ta, .int .i64 x.c, .int .i64 x.r] 52)).heap.size (wr.alloc (.cells #[.int .i64 x.k, .int .i64 x.d, .int .i64 x.fb, .int .i64 x.fa, .int .i64 x.tb, .int .i64 x.ta, .int .i64 x.c, .int .i64 x.r] 52))) nq
              generalize World.drewN _ _ = w1 at hb1 ⊢
              -- region 15
              have HB1 := Lib.hid (HBA.out.trans (hb1.mono HBA.out.size))
              have HO1 := Lib.hid (own_below HOA.out hb1)
              clear p0 p1 p2 p3 p4 p5 e0 e1 e2 e3 e4 e5 e6 e7 f0 f1 f2 f3 f4 f5 f6 f7
              obtain ⟨p0, p1, p2, p3, p4, p5⟩ := (HPC.out.below hb1 (by simp; omega)).six
              obtain ⟨e0, e1, e2, e3, e4, e5, e6, e7⟩ := (HBOX.out.below hb1 (by simp)).eight
              have hfz1 : ∀ o, w1.frozen? ⟨go, o, none⟩ = false := (own_cellx HO1.out (i := ys.length * 6 + 0) (by rw [vPs_last _ _ (by omega)]; rfl)).2.1
              clear hb1 hfz
              go_wp2
              go_quiet (fail)
              have HB3 := Lib.hid (below_drewN HB1.out nq)
              have hz3 : w.heap.size ≤ w1.heap.size := HB1.out.size
              -- a pass more, behind (ys ++ [p]); HO1: the row of passes at the world here; HB3: what stands there; w1.heap.size: the next block's number
              go_wp2_with (at_builtin; refine wpList_append_own _ rfl _ _ 41 rfl w.heap.size 46 ip _ 6 48 Tryd.underlying41 hip hp0 hp1 hp2 rfl (by decide) _ _ _ rfl (HO1.out.alloc _) ⟨w1.heap.size, 0, none⟩ 1 1 (⟨kd, x.d, x.c, r, k, 1⟩ : Pas).cells rfl rfl ?c1 ?c2 ?c3 ?c4 ?c5 ?_)
              case c1 => exact new_cells' _ _ (by simp [World.drewN])
              case c2 => intro u hu; simp at hu; rcases hu with rfl | rfl | rfl | rfl | rfl | rfl <;> rfl
              case c3 => unfold maxLen; omega
              case c4 => omega
              case c5 => have := HB3.out.size; simp; omega
              intro v' w2 hown2 hgrow2 _
              have HB2 := Lib.hid ((HB3.out.alloc HB3.out.size _).grown hgrow2 (by have := HB3.out.size; simp; omega) (fun g hg => (HO.out.lt g hg).1))
              have HO2 : Hid (w2.ownsRow w.heap.size 46 6 v' ((ys ++ [p]) ++ ([⟨kd, x.d, x.c, r, k, 1⟩] : List Pas)).length (vPs ((ys ++ [p]) ++ ([⟨kd, x.d, x.c, r, k, 1⟩] : List Pas)))) := by unfold Hid; rw [vPs_snoc]; simp only [List.length_append, List.length_singleton]; exact hown2
              clear hown2 hgrow2
              go_wp2
              exact ⟨⟨k + 1, r, some pl, (ys ++ [p]) ++ ([⟨kd, x.d, x.c, r, k, 1⟩] : List Pas), by omega, by go_num, rfl, r0, r1, rfl, HO2.out, by simp; omega, HN.out, HX.out, cnt_push HCN.out rfl, HB2.out⟩, by simp [intOf]; omega⟩
          have n2 : (p.d == x.d) = true := by simpa using a2
          by_cases a3 : p.c = x.c
          case neg =>
            have n3 : (p.c == x.c) = false := by simpa using a3
            have HN := Lib.hid (HNF.out (by simp [psFit, a3]))
            clear a1 a2 a3
            by_cases h1 : kd = 1
            · skip
              -- the pass goes on no more
              -- region 14 where the kind is 1
              have n0 : (kd != 1) = false := by simpa using h1
              have hdd : x.d = 1 ∨ x.d = -1 := HG4.out h1
              have hmul : IntKind.i64.wrap ((pl - q) * x.d) = (pl - q) * x.d := by
                rcases hdd with h | h <;> rw [h] <;> exact IntWalk.i64_in _ (by omega)
              clear h1 hdd
              go_wp2_with fail
              refine (HQK.out _).mono ?_
              rintro e w1 ⟨rfl, rfl⟩
              go_wp2
              refine wp_region_grow (by kernel_rfl) (by kernel_rfl) ?_
              repeat (go_big_quiet_step ((first | (go_at_call_of 52 (Value.agg #[.int .i64 x.fb, .int .i64 x.fa]); exact calls_grow (HQ1.out _)) | (go_at_call_of 52 (Value.agg #[.int .i64 y.fb, .int .i64 y.fa]); exact calls_grow (HQ2.out _)))))
              refine wpQuiet_nil ?_
              intro w1 hb1
              -- region 15
              have HB1 := Lib.hid (HBA.out.trans (hb1.mono HBA.out.size))
              have HO1 := Lib.hid (own_below HOA.out hb1)
              clear p0 p1 p2 p3 p4 p5 e0 e1 e2 e3 e4 e5 e6 e7 f0 f1 f2 f3 f4 f5 f6 f7
              obtain ⟨p0, p1, p2, p3, p4, p5⟩ := (HPC.out.below hb1 (by simp; omega)).six
              obtain ⟨e0, e1, e2, e3, e4, e5, e6, e7⟩ := (HBOX.out.below hb1 (by simp)).eight
              have hfz1 : ∀ o, w1.frozen? ⟨go, o, none⟩ = false := (own_cellx HO1.out (i := ys.length * 6 + 0) (by rw [vPs_last _ _ (by omega)]; rfl)).2.1
              clear hb1 hfz
              go_wp2
              go_quiet (fail)
              have HB3 := Lib.hid (below_drewN HB1.out nq)
              have hz3 : w.heap.size ≤ w1.heap.size := HB1.out.size
              -- a pass more, behind (ys ++ [p]); HO1: the row of passes at the world here; HB3: what stands there; w1.heap.size: the next block's number
              go_wp2_with (at_builtin; refine wpList_append_own _ rfl _ _ 41 rfl w.heap.size 46 ip _ 6 48 Tryd.underlying41 hip hp0 hp1 hp2 rfl (by decide) _ _ _ rfl (HO1.out.alloc _) ⟨w1.heap.size, 0, none⟩ 1 1 (⟨kd, x.d, x.c, r, k, 1⟩ : Pas).cells rfl rfl ?c1 ?c2 ?c3 ?c4 ?c5 ?_)
              case c1 => exact new_cells' _ _ (by simp [World.drewN])
              case c2 => intro u hu; simp at hu; rcases hu with rfl | rfl | rfl | rfl | rfl | rfl <;> rfl
              case c3 => unfold maxLen; omega
              case c4 => omega
              case c5 => have := HB3.out.size; simp; omega
              intro v' w2 hown2 hgrow2 _
              have HB2 := Lib.hid ((HB3.out.alloc HB3.out.size _).grown hgrow2 (by have := HB3.out.size; simp; omega) (fun g hg => (HO.out.lt g hg).1))
              have HO2 : Hid (w2.ownsRow w.heap.size 46 6 v' ((ys ++ [p]) ++ ([⟨kd, x.d, x.c, r, k, 1⟩] : List Pas)).length (vPs ((ys ++ [p]) ++ ([⟨kd, x.d, x.c, r, k, 1⟩] : List Pas)))) := by unfold Hid; rw [vPs_snoc]; simp only [List.length_append, List.length_singleton]; exact hown2
              clear hown2 hgrow2
              go_wp2
              exact ⟨⟨k + 1, r, some pl, (ys ++ [p]) ++ ([⟨kd, x.d, x.c, r, k, 1⟩] : List Pas), by omega, by go_num, rfl, r0, r1, rfl, HO2.out, by simp; omega, HN.out, HX.out, cnt_push HCN.out rfl, HB2.out⟩, by simp [intOf]; omega⟩
            · skip
              -- the pass goes on no more
              -- region 14 where the kind is not 1
              have n0 : (kd != 1) = true := by simpa using h1
              clear h1
              go_wp2_with fail
              refine (HQK.out _).mono ?_
              rintro e w1 ⟨rfl, rfl⟩
              go_wp2
              go_quiet (fail)
              have hb1 := below_drewN (Below.refl (wr.alloc (.cells #[.int .i64 x.k, .int .i64 x.d, .int .i64 x.fb, .int .i64 x.fa, .int .i64 x.tb, .int .i64 x.ta, .int .i64 x.c, .int .i64 x.r] 52)).heap.size (wr.alloc (.cells #[.int .i64 x.k, .int .i64 x.d, .int .i64 x.fb, .int .i64 x.fa, .int .i64 x.tb, .int .i64 x.ta, .int .i64 x.c, .int .i64 x.r] 52))) nq
              generalize World.drewN _ _ = w1 at hb1 ⊢
              -- region 15
              have HB1 := Lib.hid (HBA.out.trans (hb1.mono HBA.out.size))
              have HO1 := Lib.hid (own_below HOA.out hb1)
              clear p0 p1 p2 p3 p4 p5 e0 e1 e2 e3 e4 e5 e6 e7 f0 f1 f2 f3 f4 f5 f6 f7
              obtain ⟨p0, p1, p2, p3, p4, p5⟩ := (HPC.out.below hb1 (by simp; omega)).six
              obtain ⟨e0, e1, e2, e3, e4, e5, e6, e7⟩ := (HBOX.out.below hb1 (by simp)).eight
              have hfz1 : ∀ o, w1.frozen? ⟨go, o, none⟩ = false := (own_cellx HO1.out (i := ys.length * 6 + 0) (by rw [vPs_last _ _ (by omega)]; rfl)).2.1
              clear hb1 hfz
              go_wp2
              go_quiet (fail)
              have HB3 := Lib.hid (below_drewN HB1.out nq)
              have hz3 : w.heap.size ≤ w1.heap.size := HB1.out.size
              -- a pass more, behind (ys ++ [p]); HO1: the row of passes at the world here; HB3: what stands there; w1.heap.size: the next block's number
              go_wp2_with (at_builtin; refine wpList_append_own _ rfl _ _ 41 rfl w.heap.size 46 ip _ 6 48 Tryd.underlying41 hip hp0 hp1 hp2 rfl (by decide) _ _ _ rfl (HO1.out.alloc _) ⟨w1.heap.size, 0, none⟩ 1 1 (⟨kd, x.d, x.c, r, k, 1⟩ : Pas).cells rfl rfl ?c1 ?c2 ?c3 ?c4 ?c5 ?_)
              case c1 => exact new_cells' _ _ (by simp [World.drewN])
              case c2 => intro u hu; simp at hu; rcases hu with rfl | rfl | rfl | rfl | rfl | rfl <;> rfl
              case c3 => unfold maxLen; omega
              case c4 => omega
              case c5 => have := HB3.out.size; simp; omega
              intro v' w2 hown2 hgrow2 _
              have HB2 := Lib.hid ((HB3.out.alloc HB3.out.size _).grown hgrow2 (by have := HB3.out.size; simp; omega) (fun g hg => (HO.out.lt g hg).1))
              have HO2 : Hid (w2.ownsRow w.heap.size 46 6 v' ((ys ++ [p]) ++ ([⟨kd, x.d, x.c, r, k, 1⟩] : List Pas)).length (vPs ((ys ++ [p]) ++ ([⟨kd, x.d, x.c, r, k, 1⟩] : List Pas)))) := by unfold Hid; rw [vPs_snoc]; simp only [List.length_append, List.length_singleton]; exact hown2
              clear hown2 hgrow2
              go_wp2
              exact ⟨⟨k + 1, r, some pl, (ys ++ [p]) ++ ([⟨kd, x.d, x.c, r, k, 1⟩] : List Pas), by omega, by go_num, rfl, r0, r1, rfl, HO2.out, by simp; omega, HN.out, HX.out, cnt_push HCN.out rfl, HB2.out⟩, by simp [intOf]; omega⟩
          have n3 : (p.c == x.c) = true := by simpa using a3
          by_cases h1 : kd = 1
          · have hd := g4 h1
            by_cases a4 : 0 < (pl - q) * x.d
            · have HN := Lib.hid (HF.out (by simp [psFit, a1, a2, a3, a4]))
              clear a1 a2 a3 HNF
              -- the pass goes on
              -- region 14 where the kind is 1
              have n0 : (kd != 1) = false := by simpa using h1
              have hdd : x.d = 1 ∨ x.d = -1 := HG4.out h1
              have hmul : IntKind.i64.wrap ((pl - q) * x.d) = (pl - q) * x.d := by
                rcases hdd with h | h <;> rw [h] <;> exact IntWalk.i64_in _ (by omega)
              clear h1 hdd
              go_wp2_with fail
              refine (HQK.out _).mono ?_
              rintro e w1 ⟨rfl, rfl⟩
              go_wp2
              refine wp_region_grow (by kernel_rfl) (by kernel_rfl) ?_
              repeat (go_big_quiet_step ((first | (go_at_call_of 52 (Value.agg #[.int .i64 x.fb, .int .i64 x.fa]); exact calls_grow (HQ1.out _)) | (go_at_call_of 52 (Value.agg #[.int .i64 y.fb, .int .i64 y.fa]); exact calls_grow (HQ2.out _)))))
              refine wpQuiet_nil ?_
              intro w1 hb1
              -- region 15
              have HB1 := Lib.hid (HBA.out.trans (hb1.mono HBA.out.size))
              have HO1 := Lib.hid (own_below HOA.out hb1)
              clear p0 p1 p2 p3 p4 p5 e0 e1 e2 e3 e4 e5 e6 e7 f0 f1 f2 f3 f4 f5 f6 f7
              obtain ⟨p0, p1, p2, p3, p4, p5⟩ := (HPC.out.below hb1 (by simp; omega)).six
              obtain ⟨e0, e1, e2, e3, e4, e5, e6, e7⟩ := (HBOX.out.below hb1 (by simp)).eight
              have hfz1 : ∀ o, w1.frozen? ⟨go, o, none⟩ = false := (own_cellx HO1.out (i := ys.length * 6 + 0) (by rw [vPs_last _ _ (by omega)]; rfl)).2.1
              clear hb1 hfz
              go_wp2
              go_quiet (fail)
              have HB3 := Lib.hid (below_drewN HB1.out nq)
              have hz3 : w.heap.size ≤ w1.heap.size := HB1.out.size
              have HO2 : Hid (((w1.drewN nq).setCell ⟨go, ys.length * 6 + 5, none⟩ (.int .i64 (p.n + 1))).ownsRow w.heap.size 46 6 (.slice (some ⟨go, 0, none⟩) (ys.length + 1) cap) (ys ++ [bump p]).length (vPs (ys ++ [bump p]))) := by
                have h := own_setx (.int .i64 (p.n + 1)) HO1.out (i := ys.length * 6 + 5) (by omega)
                rw [vPs_bump] at h
                simp only [List.length_append, List.length_singleton] at h ⊢
                exact h
              go_wp2
              exact ⟨⟨k + 1, r, some pl, ys ++ [bump p], by omega, by go_num, rfl, r0, r1, rfl, HO2.out, by simp; omega, HN.out, (fun q' hq' => ⟨by omega, ⟨ys, bump p, rfl⟩, (HX.out q' hq').2.2⟩), cnt_bump HCN.out, HB3.out.setCell hgB _⟩, by simp [intOf]; omega⟩
            · have HN := Lib.hid (HNF.out (by simp [psFit, h1, a4]))
              clear a1 a2 a3 HF
              -- the pass goes on no more
              -- region 14 where the kind is 1
              have n0 : (kd != 1) = false := by simpa using h1
              have hdd : x.d = 1 ∨ x.d = -1 := HG4.out h1
              have hmul : IntKind.i64.wrap ((pl - q) * x.d) = (pl - q) * x.d := by
                rcases hdd with h | h <;> rw [h] <;> exact IntWalk.i64_in _ (by omega)
              clear h1 hdd
              go_wp2_with fail
              refine (HQK.out _).mono ?_
              rintro e w1 ⟨rfl, rfl⟩
              go_wp2
              refine wp_region_grow (by kernel_rfl) (by kernel_rfl) ?_
              repeat (go_big_quiet_step ((first | (go_at_call_of 52 (Value.agg #[.int .i64 x.fb, .int .i64 x.fa]); exact calls_grow (HQ1.out _)) | (go_at_call_of 52 (Value.agg #[.int .i64 y.fb, .int .i64 y.fa]); exact calls_grow (HQ2.out _)))))
              refine wpQuiet_nil ?_
              intro w1 hb1
              -- region 15
              have HB1 := Lib.hid (HBA.out.trans (hb1.mono HBA.out.size))
              have HO1 := Lib.hid (own_below HOA.out hb1)
              clear p0 p1 p2 p3 p4 p5 e0 e1 e2 e3 e4 e5 e6 e7 f0 f1 f2 f3 f4 f5 f6 f7
              obtain ⟨p0, p1, p2, p3, p4, p5⟩ := (HPC.out.below hb1 (by simp; omega)).six
              obtain ⟨e0, e1, e2, e3, e4, e5, e6, e7⟩ := (HBOX.out.below hb1 (by simp)).eight
              have hfz1 : ∀ o, w1.frozen? ⟨go, o, none⟩ = false := (own_cellx HO1.out (i := ys.length * 6 + 0) (by rw [vPs_last _ _ (by omega)]; rfl)).2.1
              clear hb1 hfz
              go_wp2
              go_quiet (fail)
              have HB3 := Lib.hid (below_drewN HB1.out nq)
              have hz3 : w.heap.size ≤ w1.heap.size := HB1.out.size
              -- a pass more, behind (ys ++ [p]); HO1: the row of passes at the world here; HB3: what stands there; w1.heap.size: the next block's number
              go_wp2_with (at_builtin; refine wpList_append_own _ rfl _ _ 41 rfl w.heap.size 46 ip _ 6 48 Tryd.underlying41 hip hp0 hp1 hp2 rfl (by decide) _ _ _ rfl (HO1.out.alloc _) ⟨w1.heap.size, 0, none⟩ 1 1 (⟨kd, x.d, x.c, r, k, 1⟩ : Pas).cells rfl rfl ?c1 ?c2 ?c3 ?c4 ?c5 ?_)
              case c1 => exact new_cells' _ _ (by simp [World.drewN])
              case c2 => intro u hu; simp at hu; rcases hu with rfl | rfl | rfl | rfl | rfl | rfl <;> rfl
              case c3 => unfold maxLen; omega
              case c4 => omega
              case c5 => have := HB3.out.size; simp; omega
              intro v' w2 hown2 hgrow2 _
              have HB2 := Lib.hid ((HB3.out.alloc HB3.out.size _).grown hgrow2 (by have := HB3.out.size; simp; omega) (fun g hg => (HO.out.lt g hg).1))
              have HO2 : Hid (w2.ownsRow w.heap.size 46 6 v' ((ys ++ [p]) ++ ([⟨kd, x.d, x.c, r, k, 1⟩] : List Pas)).length (vPs ((ys ++ [p]) ++ ([⟨kd, x.d, x.c, r, k, 1⟩] : List Pas)))) := by unfold Hid; rw [vPs_snoc]; simp only [List.length_append, List.length_singleton]; exact hown2
              clear hown2 hgrow2
              go_wp2
              exact ⟨⟨k + 1, r, some pl, (ys ++ [p]) ++ ([⟨kd, x.d, x.c, r, k, 1⟩] : List Pas), by omega, by go_num, rfl, r0, r1, rfl, HO2.out, by simp; omega, HN.out, HX.out, cnt_push HCN.out rfl, HB2.out⟩, by simp [intOf]; omega⟩
          · have HN := Lib.hid (HF.out (by simp [psFit, a1, a2, a3, h1]))
            clear a1 a2 a3 HNF
            -- the pass goes on
            -- region 14 where the kind is not 1
            have n0 : (kd != 1) = true := by simpa using h1
            clear h1
            go_wp2_with fail
            refine (HQK.out _).mono ?_
            rintro e w1 ⟨rfl, rfl⟩
            go_wp2
            go_quiet (fail)
            have hb1 := below_drewN (Below.refl (wr.alloc (.cells #[.int .i64 x.k, .int .i64 x.d, .int .i64 x.fb, .int .i64 x.fa, .int .i64 x.tb, .int .i64 x.ta, .int .i64 x.c, .int .i64 x.r] 52)).heap.size (wr.alloc (.cells #[.int .i64 x.k, .int .i64 x.d, .int .i64 x.fb, .int .i64 x.fa, .int .i64 x.tb, .int .i64 x.ta, .int .i64 x.c, .int .i64 x.r] 52))) nq
            generalize World.drewN _ _ = w1 at hb1 ⊢
            -- region 15
            have HB1 := Lib.hid (HBA.out.trans (hb1.mono HBA.out.size))
            have HO1 := Lib.hid (own_below HOA.out hb1)
            clear p0 p1 p2 p3 p4 p5 e0 e1 e2 e3 e4 e5 e6 e7 f0 f1 f2 f3 f4 f5 f6 f7
            obtain ⟨p0, p1, p2, p3, p4, p5⟩ := (HPC.out.below hb1 (by simp; omega)).six
            obtain ⟨e0, e1, e2, e3, e4, e5, e6, e7⟩ := (HBOX.out.below hb1 (by simp)).eight
            have hfz1 : ∀ o, w1.frozen? ⟨go, o, none⟩ = false := (own_cellx HO1.out (i := ys.length * 6 + 0) (by rw [vPs_last _ _ (by omega)]; rfl)).2.1
            clear hb1 hfz
            go_wp2
            go_quiet (fail)
            have HB3 := Lib.hid (below_drewN HB1.out nq)
            have hz3 : w.heap.size ≤ w1.heap.size := HB1.out.size
            have HO2 : Hid (((w1.drewN nq).setCell ⟨go, ys.length * 6 + 5, none⟩ (.int .i64 (p.n + 1))).ownsRow w.heap.size 46 6 (.slice (some ⟨go, 0, none⟩) (ys.length + 1) cap) (ys ++ [bump p]).length (vPs (ys ++ [bump p]))) := by
              have h := own_setx (.int .i64 (p.n + 1)) HO1.out (i := ys.length * 6 + 5) (by omega)
              rw [vPs_bump] at h
              simp only [List.length_append, List.length_singleton] at h ⊢
              exact h
            go_wp2
            exact ⟨⟨k + 1, r, some pl, ys ++ [bump p], by omega, by go_num, rfl, r0, r1, rfl, HO2.out, by simp; omega, HN.out, (fun q' hq' => ⟨by omega, ⟨ys, bump p, rfl⟩, (HX.out q' hq').2.2⟩), cnt_bump HCN.out, HB3.out.setCell hgB _⟩, by simp [intOf]; omega⟩
    · have HE := Lib.hid (ps_end HD.out (by have := HLN.out; omega))
      go_wp2
      go_ret
      exact ⟨_, rfl, by rw [HE.out]; exact OwC.of_own HO.out, HB.out⟩

end Go.Proofs.YtccdnmafakaleaaDoor

/-
  The passes of operations, of the reference.
-/
namespace Go.Proofs.YtccdnmafakaleaaDoor
set_option linter.unusedVariables false
set_option linter.unusedSimpArgs false
open Go.RowKit


end Go.Proofs.YtccdnmafakaleaaDoor

/-
  How much a count leaves.
-/
namespace Go.Proofs.YtccdnmafakaleaaDoor

def szOf (left : Int) (n : Nat) : Int := if (n : Int) ≤ left then left - n else -1
theorem szOf_no {left : Int} {n : Nat} (h : ¬ (n : Int) ≤ left) : szOf left n = -1 := by simp [szOf, h]
theorem szOf_yes {left : Int} {n : Nat} (h : (n : Int) ≤ left) : szOf left n = left - n := by simp [szOf, h]

theorem szOf_pos' {left z : Int} {n : Nat} (h : szOf left n = z) (hz : 0 ≤ z) : (n : Int) ≤ left ∧ z = left - n := by
  unfold szOf at h
  split at h <;> omega

end Go.Proofs.YtccdnmafakaleaaDoor

/-
  PassesOf of the program and of the reference: the result and the code; an argument that is a slice of operations.
-/
namespace Go.Proofs.YtccdnmafakaleaaDoor
set_option linter.unusedVariables false
set_option linter.unusedSimpArgs false
open Go.ChangeShapes Go.WideShapes Go.ChangeAt Go.RowKit Go.Deep


theorem areOps_any (v : Value) (l : List Opr) (w : World) (hl : RdO w w.heap.size v l) :
    Calls Tryd.prog 44 #[v] w fun e w' => e = .returned (.bool (opsB 24 l)) ∧ Below w.heap.size w w' := by
  have HV := Lib.hid (validFor_any 24 v l w hl)
  obtain ⟨A, N, c, rfl, hln, hl', gl⟩ := hl
  clear hl' gl
  generalize opsB 24 l = B at *
  go_enter Tryd.func44, Tryd.ntmps44
  go_wp2_with fail
  refine HV.out.mono ?_
  rintro e w1 ⟨rfl, hb⟩
  have HB := Lib.hid hb
  clear hb
  go_wp2
  go_ret
  exact ⟨rfl, HB.out⟩

def psC (l : List Opr) : Int := if opsB 24 l = true then 0 else 1
def psR (l : List Opr) : List Pas := if opsB 24 l = true then psL l else []
theorem ps_bad {w w' : World} {l : List Opr} (h : opsB 24 l = false) (hb : Below w.heap.size w w') : GivesC w 46 6 (psR l).length (vPs (psR l)) (psC l) (.returned (.tuple #[.slice none 0 0, .int .i64 1])) w' := by
  rw [show psR l = [] by simp [psR, h], show psC l = 1 by simp [psC, h]]
  exact ⟨_, rfl, OwC.nil, hb⟩
theorem ps_yes {w w' : World} {l : List Opr} {v : Value} (h : opsB 24 l = true) (ho : OwC w' w.heap.size w'.heap.size 46 6 v (psL l).length (vPs (psL l))) (hb : Below w.heap.size w w') : GivesC w 46 6 (psR l).length (vPs (psR l)) (psC l) (.returned (.tuple #[v, .int .i64 0])) w' := by
  rw [show psR l = psL l by simp [psR, h], show psC l = 0 by simp [psC, h]]
  exact ⟨_, rfl, ho, hb⟩
theorem psAcc_len (k : Nat) (r : Int) (acc : List Pas) (o : Opr) (lt : Option Int) : (psAcc k r acc o lt).length ≤ acc.length + 1 := by
  have hp : (psPush k r acc o).length = acc.length + 1 := by simp [psPush]
  unfold psAcc
  split
  · unfold psOne
    split
    · split
      · simp only [List.length_append, List.length_dropLast, List.length_cons, List.length_nil]
        omega
      · omega
    · omega
  · omega
theorem psGo_len : ∀ (l : List Opr) (k : Nat) (r : Int) (lt : Option Int) (acc : List Pas), (psGo k r lt acc l).length ≤ acc.length + l.length
  | [], k, r, lt, acc => by simp [psGo]
  | o :: t, k, r, lt, acc => by
    rw [psGo, List.length_cons]
    split
    · have := psGo_len t (k + 1) (if o.k = 7 then o.r else r) none acc
      omega
    · have h1 := psGo_len t (k + 1) r (some (plc o.fb o.fa r)) (psAcc k r acc o lt)
      have h2 := psAcc_len k r acc o lt
      omega
theorem psR_len (l : List Opr) : (psR l).length ≤ 1048576 := by
  unfold psR
  split
  · rename_i h
    have := ops_len h
    have h2 := psGo_len l 0 0 none []
    unfold psL
    simp at h2
    omega
  · simp


/- PassesOf: spec.PassesOf function · specPassesOf name · l09Ops_any the test · l09Passes_any the passes -/
/- PassesOf: impl.PassesOf function · implPassesOf name · areOps_any the test · passes_any the passes -/
set_option maxHeartbeats 4000000 in
set_option maxRecDepth 100000 in
theorem implPassesOf_any (v : Value) (l : List Opr) (w : World) (hl : RdO w w.heap.size v l) :
    Calls Tryd.prog 12 #[v] w (GivesC w 46 6 (psR l).length (vPs (psR l)) (psC l)) := by
  have HL := Lib.hid hl
  have HV := Lib.hid (areOps_any v l w hl)
  obtain ⟨A, N, c, rfl, hln, hl', gl⟩ := hl
  clear hl' gl
  cases ho : opsB 24 l
  · have HN := Lib.hid (fun w' hb => ps_bad (w := w) (w' := w') ho hb)
    rw [ho] at HV
    clear ho
    go_enter Tryd.func12, Tryd.ntmps12
    go_wp2_with fail
    refine HV.out.mono ?_
    rintro e w1 ⟨rfl, hb⟩
    have HB := Lib.hid hb
    clear hb
    go_wp2
    go_ret2
    exact HN.out _ HB.out
  · rw [ho] at HV
    have HQ := Lib.hid (fun w1 (hb : Below w.heap.size w w1) => passes_any 24 _ l w1 ((HL.out.below hb).more hb.size) ho)
    have HY := Lib.hid (fun w' v hw hb => ps_yes (w := w) (w' := w') (v := v) ho hw hb)
    clear ho
    go_enter Tryd.func12, Tryd.ntmps12
    go_wp2_with fail
    refine HV.out.mono ?_
    rintro e w1 ⟨rfl, hb⟩
    have HB := Lib.hid hb
    clear hb
    go_wp2_with fail
    refine (HQ.out _ HB.out).mono ?_
    rintro e w2 ⟨v2, rfl, hw, hb⟩
    obtain ⟨A2, c2, rfl, -⟩ := hw.cells
    have HW := Lib.hid (hw.wide HB.out.size (Nat.le_refl _))
    have HB2 := Lib.hid (HB.out.trans (hb.mono HB.out.size))
    clear hb hw
    go_wp2
    go_ret2
    exact HY.out _ _ HW.out HB2.out

end Go.Proofs.YtccdnmafakaleaaDoor

/-
  The span of a pass: the plain law, is a pass in a list.
-/
namespace Go.Proofs.YtccdnmafakaleaaDoor
set_option linter.unusedVariables false
set_option linter.unusedSimpArgs false
open Go.RowKit

def mn (z x : Int) : Int := if x < z then x else z
def mx (z x : Int) : Int := if z < x then x else z
def lowG (r z : Int) (l : List Opr) : Int := l.foldl (fun z o => mn z (plc o.fb o.fa r)) z
def highG (r z : Int) (l : List Opr) : Int := l.foldl (fun z o => mx z (plc o.fb o.fa r)) z
theorem low_step {R r z : Int} {l : List Opr} {k : Nat} {o : Opr} (h : R = lowG r z (l.drop k)) (ho : l[k]? = some o) : R = lowG r (mn z (plc o.fb o.fa r)) (l.drop (k + 1)) := by
  rw [h, drop_of_get ho]
  rfl
theorem high_step {R r z : Int} {l : List Opr} {k : Nat} {o : Opr} (h : R = highG r z (l.drop k)) (ho : l[k]? = some o) : R = highG r (mx z (plc o.fb o.fa r)) (l.drop (k + 1)) := by
  rw [h, drop_of_get ho]
  rfl
theorem low_end {R r z : Int} {l : List Opr} {k : Nat} (h : R = lowG r z (l.drop k)) (hk : l.length ≤ k) : R = z := by
  rw [h, List.drop_of_length_le hk]
  rfl
theorem high_end {R r z : Int} {l : List Opr} {k : Nat} (h : R = highG r z (l.drop k)) (hk : l.length ≤ k) : R = z := by
  rw [h, List.drop_of_length_le hk]
  rfl
/-- What holds of each pass of k operations. -/
def PsIn (k : Nat) (x : Pas) : Prop := 0 ≤ x.f ∧ 1 ≤ x.n ∧ x.f + x.n ≤ k ∧ -3 ≤ x.r ∧ x.r ≤ 3
theorem PsIn.next {k : Nat} {x : Pas} (h : PsIn k x) : PsIn (k + 1) x := by
  obtain ⟨a, b, c, d, e⟩ := h
  exact ⟨a, b, by omega, d, e⟩
theorem psAcc_in {k : Nat} {r : Int} {acc : List Pas} {o : Opr} {lt : Option Int} (hr : -3 ≤ r ∧ r ≤ 3) (h : ∀ x ∈ acc, PsIn k x) : ∀ x ∈ psAcc k r acc o lt, PsIn (k + 1) x := by
  have hp : ∀ x ∈ psPush k r acc o, PsIn (k + 1) x := by
    intro x hx
    unfold psPush at hx
    rcases List.mem_append.1 hx with hx | hx
    · exact (h x hx).next
    · simp at hx
      subst hx
      exact ⟨by simp, by simp, by simp, hr.1, hr.2⟩
  unfold psAcc
  cases lt with
  | none => exact hp
  | some q =>
    simp only
    cases hl : acc.getLast? with
    | none => exact hp
    | some p =>
      unfold psOne
      simp only
      split
      · intro x hx
        rcases List.mem_append.1 hx with hx | hx
        · exact (h x (List.dropLast_subset _ hx)).next
        · simp at hx
          subst hx
          obtain ⟨a, b, c, d, e⟩ := h p (List.mem_of_getLast? hl)
          exact ⟨a, by show 1 ≤ p.n + 1; omega, by show p.f + (p.n + 1) ≤ ((k + 1 : Nat) : Int); omega, d, e⟩
      · exact hp
theorem psGo_in : ∀ (l : List Opr) (k : Nat) (r : Int) (lt : Option Int) (acc : List Pas), -3 ≤ r ∧ r ≤ 3 → (∀ o ∈ l, -3 ≤ o.r ∧ o.r ≤ 3) → (∀ x ∈ acc, PsIn k x) → ∀ x ∈ psGo k r lt acc l, PsIn (k + l.length) x
  | [], k, r, lt, acc, hr, ho, h, x, hx => by rw [psGo] at hx; exact h x hx
  | o :: t, k, r, lt, acc, hr, ho, h, x, hx => by
    rw [psGo] at hx
    have e : k + (o :: t).length = k + 1 + t.length := by simp; omega
    rw [e]
    have hot := fun y hy => ho y (List.mem_cons_of_mem _ hy)
    split at hx
    · refine psGo_in t (k + 1) _ none acc ?_ hot (fun y hy => (h y hy).next) x hx
      split
      · exact ho o List.mem_cons_self
      · exact hr
    · exact psGo_in t (k + 1) r _ _ hr hot (psAcc_in hr h) x hx
theorem okOp_r {o : Opr} (h : okOp o = true) : -3 ≤ o.r ∧ o.r ≤ 3 := ⟨(okOp_rng h).1, (okOp_rng h).2.1⟩
theorem okOp_fa {o : Opr} (h : okOp o = true) : -100 ≤ o.fa ∧ o.fa ≤ 100 := by
  by_cases hk : psK o.k = 0
  · obtain ⟨k, d, fb, fa, tb, ta, c, r⟩ := o
    unfold okOp at h
    simp only at h hk ⊢
    have hn : k ≠ 1 ∧ k ≠ 2 ∧ k ≠ 3 ∧ k ≠ 4 ∧ k ≠ 5 ∧ k ≠ 6 := by
      refine ⟨?_, ?_, ?_, ?_, ?_, ?_⟩ <;> (rintro rfl; simp [psK] at hk)
    rw [if_neg (by omega), if_neg (by omega), if_neg (by omega), if_neg (by omega)] at h
    split at h
    · simp only [Bool.and_eq_true, decide_eq_true_eq, Opr.mk.injEq] at h
      omega
    split at h
    · simp only [Bool.and_eq_true, decide_eq_true_eq, Opr.mk.injEq] at h
      omega
    split at h
    · simp only [Bool.and_eq_true, decide_eq_true_eq, Opr.mk.injEq] at h
      omega
    · cases h
  · have := (okOp_rng h).2.2.1 hk
    omega
theorem psL_in {n : Int} {l : List Opr} (h : opsB n l = true) {p : Pas} (hp : p ∈ psL l) : PsIn l.length p := by
  have := psGo_in l 0 0 none [] ⟨by omega, by omega⟩ (fun o ho => by
    obtain ⟨k, hk, e⟩ := List.getElem_of_mem ho
    exact okOp_r (ops_at h (k := k) (by rw [List.getElem?_eq_getElem hk, e]))) (by simp) p hp
  simpa using this

def spnS (l : List Opr) (p : Pas) : List Opr := (l.drop p.f.toNat).take p.n.toNat
def spnZ (l : List Opr) (p : Pas) : Int := match l[p.f.toNat]? with
  | some o => plc o.fb o.fa p.r
  | none => 0
def spn (l : List Opr) (p : Pas) : Int × Int × Int :=
  if opsB 24 l = true then (if p ∈ psL l then (lowG p.r (spnZ l p) (spnS l p), highG p.r (spnZ l p) (spnS l p), 0) else (0, 0, 3)) else (0, 0, 1)
def spnV (l : List Opr) (p : Pas) : Value := .tuple #[.int .i64 (spn l p).1, .int .i64 (spn l p).2.1, .int .i64 (spn l p).2.2]
theorem spn_bad {l : List Opr} {p : Pas} (h : opsB 24 l = false) : spnV l p = .tuple #[.int .i64 0, .int .i64 0, .int .i64 1] := by
  unfold spnV spn
  rw [h]
  rfl
theorem spn_none {l : List Opr} {p : Pas} (h : opsB 24 l = true) (hp : ¬ p ∈ psL l) : spnV l p = .tuple #[.int .i64 0, .int .i64 0, .int .i64 3] := by
  unfold spnV spn
  rw [if_pos h, if_neg hp]
theorem spn_yes {l : List Opr} {p : Pas} (h : opsB 24 l = true) (hp : p ∈ psL l) : spnV l p = .tuple #[.int .i64 (lowG p.r (spnZ l p) (spnS l p)), .int .i64 (highG p.r (spnZ l p) (spnS l p)), .int .i64 0] := by
  unfold spnV spn
  rw [if_pos h, if_pos hp]
theorem spnS_at {l : List Opr} {p : Pas} {f n k : Nat} (hf : p.f = f) (hn : p.n = n) (hk : k < n) : (spnS l p)[k]? = l[f + k]? := by
  unfold spnS
  rw [hf, hn, Int.toNat_natCast, Int.toNat_natCast, List.getElem?_take_of_lt hk, List.getElem?_drop]
theorem spnS_len {l : List Opr} {p : Pas} {f n : Nat} (hf : p.f = f) (hn : p.n = n) : (spnS l p).length ≤ n := by
  unfold spnS
  rw [hf, hn, Int.toNat_natCast, Int.toNat_natCast, List.length_take]
  omega

set_option maxHeartbeats 1000000 in
theorem indexPs_any (v : Value) (l : List Pas) (x : Pas) (w : World) (hl : RdPs w w.heap.size v l) :
    Calls Tryd.prog 83 #[v, x.v] w fun e w' => e = .returned (.int .i64 (idxOf (fun y => decide (x = y)) l)) ∧ Below w.heap.size w w' := by
  have HB0 := Lib.hid (show Below w.heap.size w (w.alloc (.cells #[.int .i64 x.k, .int .i64 x.d, .int .i64 x.c, .int .i64 x.r, .int .i64 x.f, .int .i64 x.n] 46)) from (Below.refl _ _).alloc (Nat.le_refl _) _)
  have HP0 : Hid (CellsAt (w.alloc (.cells #[.int .i64 x.k, .int .i64 x.d, .int .i64 x.c, .int .i64 x.r, .int .i64 x.f, .int .i64 x.n] 46)) w.heap.size 0 x.cells) := fun j u hu => by
    rcases j with _ | _ | _ | _ | _ | _ | j <;> simp at hu <;> subst hu <;> simp [go_sem]
  have HL := Lib.hid hl
  obtain ⟨A, n, c, rfl, hbig, hln, gl⟩ := hl
  clear gl
  generalize hR : idxOf (fun y => decide (x = y)) l = R
  have HR := Lib.hid hR
  have HLN := Lib.hid hln.out
  clear hR hln
  go_enter Tryd.func83, Tryd.ntmps83
  go_wp2
  go_loopw [5, 8] (fun _ i wr => ∃ k : Nat, k ≤ n ∧ i = .int .i64 k ∧ Hid (R = idxFrom (fun y => decide (x = y)) k (l.drop k)) ∧ Hid (CellsAt wr w.heap.size 0 x.cells) ∧ Below w.heap.size w wr) (fun _ i _ => n - (intOf i).toNat)
  case atStart => exact ⟨0, Nat.zero_le _, rfl, HR.out.symm, HP0.out, HB0.out⟩
  case round =>
    rename_i wr
    obtain ⟨k, hk, rfl, hd, HP, hb⟩ := hrel
    by_cases hlt : k < n
    · obtain ⟨b, off, y, rfl, hbb, hlk, hc⟩ := (HL.out.below hb).at_ hlt
      have HB := Lib.hid hb
      obtain ⟨c0, c1, c2, c3, c4, c5⟩ := hc.six
      obtain ⟨p0, p1, p2, p3, p4, p5⟩ := HP.out.six
      have HC := Lib.hid hc
      by_cases hy : x = y
      · have HT := Lib.hid (show R = (k : Int) by rw [hd.out, drop_of_get hlk]; simp [hy, idxFrom])
        have heq : ∀ W, (binOp .eql 46 x.v y.v).run Tryd.prog W = .ok (.bool true) W := fun W => by rw [eql_ps x y W]; simp [hy]
        clear hb hlk hd hy hc
        go_wp2
        go_quiet (fail)
        have HB2 := Lib.hid (below_drewN HB.out nq)
        go_wp2
        go_ret
        exact ⟨ret_int HT.out.symm, HB2.out⟩
      · have HT := Lib.hid (show R = idxFrom (fun y => decide (x = y)) (k + 1) (l.drop (k + 1)) by rw [hd.out, drop_of_get hlk]; simp [hy, idxFrom])
        have heq : ∀ W, (binOp .eql 46 x.v y.v).run Tryd.prog W = .ok (.bool false) W := fun W => by rw [eql_ps x y W]; simp [hy]
        clear hb hlk hd hy hc
        go_wp2
        go_quiet (fail)
        have HB2 := Lib.hid (below_drewN HB.out nq)
        go_wp2
        exact ⟨⟨k + 1, by omega, by go_num, HT.out, HP.out, HB2.out⟩, by simp [intOf]; omega⟩
    · have HB := Lib.hid hb
      have HT := Lib.hid (show R = -1 by rw [hd.out, List.drop_of_length_le (by have := HLN.out; omega)]; rfl)
      clear hb
      go_wp2
      go_ret
      exact ⟨ret_int HT.out.symm, HB.out⟩
theorem idx_mem (l : List Pas) (x : Pas) : decide (0 ≤ idxOf (fun y => decide (x = y)) l) = decide (x ∈ l) := by
  rw [Bool.eq_iff_iff]
  have h := idxOf_any (fun y => decide (x = y)) l
  simp only [decide_eq_true_eq]
  rw [h]
  simp [List.any_eq_true]
theorem containsPs_any (v : Value) (l : List Pas) (x : Pas) (w : World) (hl : RdPs w w.heap.size v l) :
    Calls Tryd.prog 51 #[v, x.v] w fun e w' => e = .returned (.bool (decide (x ∈ l))) ∧ Below w.heap.size w w' := by
  have hi := idx_mem l x
  have HB0 := Lib.hid (show Below w.heap.size w (w.alloc (.cells #[.int .i64 x.k, .int .i64 x.d, .int .i64 x.c, .int .i64 x.r, .int .i64 x.f, .int .i64 x.n] 46)) from (Below.refl _ _).alloc (Nat.le_refl _) _)
  have HP0 : Hid (CellsAt (w.alloc (.cells #[.int .i64 x.k, .int .i64 x.d, .int .i64 x.c, .int .i64 x.r, .int .i64 x.f, .int .i64 x.n] 46)) w.heap.size 0 x.cells) := fun j u hu => by
    rcases j with _ | _ | _ | _ | _ | _ | j <;> simp at hu <;> subst hu <;> simp [go_sem]
  have HX := Lib.hid (indexPs_any v l x _ ((hl.below HB0.out).more HB0.out.size))
  obtain ⟨A, n, c, rfl, hbig, hln, gl⟩ := hl
  clear gl hln
  generalize idxOf (fun y => decide (x = y)) l = I at hi HX
  rw [← hi]
  clear hi
  obtain ⟨p0, p1, p2, p3, p4, p5⟩ := HP0.out.six
  go_enter Tryd.func51, Tryd.ntmps51
  go_wp2_with fail
  refine HX.out.mono ?_
  rintro e w1 ⟨rfl, hb1⟩
  have HB1 := Lib.hid (HB0.out.trans (hb1.mono HB0.out.size))
  clear p0 p1 p2 p3 p4 p5
  go_wp2
  all_goals go_ret
  all_goals exact ⟨ret_bool (by simp), HB1.out⟩

end Go.Proofs.YtccdnmafakaleaaDoor

/-
  SpanOf of the program.
-/
namespace Go.Proofs.YtccdnmafakaleaaDoor
set_option linter.unusedVariables false
set_option linter.unusedSimpArgs false
open Go.RowKit

set_option maxHeartbeats 8000000 in
set_option maxRecDepth 100000 in
theorem implSpan_any (v : Value) (l : List Opr) (p : Pas) (w : World) (hl : RdO w w.heap.size v l) (hcp : CapOk v) :
    Calls Tryd.prog 17 #[v, p.v] w fun e w' => e = .returned (spnV l p) ∧ Below w.heap.size w w' := by
  have HB0 := Lib.hid (show Below w.heap.size w (w.alloc (.cells #[.int .i64 p.k, .int .i64 p.d, .int .i64 p.c, .int .i64 p.r, .int .i64 p.f, .int .i64 p.n] 46)) from (Below.refl _ _).alloc (Nat.le_refl _) _)
  have HP0 : Hid (CellsAt (w.alloc (.cells #[.int .i64 p.k, .int .i64 p.d, .int .i64 p.c, .int .i64 p.r, .int .i64 p.f, .int .i64 p.n] 46)) w.heap.size 0 p.cells) := fun j u hu => by
    rcases j with _ | _ | _ | _ | _ | _ | j <;> simp at hu <;> subst hu <;> simp [go_sem]
  have HZ0 := Lib.hid (show w.heap.size < (w.alloc (.cells #[.int .i64 p.k, .int .i64 p.d, .int .i64 p.c, .int .i64 p.r, .int .i64 p.f, .int .i64 p.n] 46)).heap.size by simp)
  have HL0 := Lib.hid ((hl.below HB0.out).more HB0.out.size)
  cases hok : opsB 24 l
  · have HN := Lib.hid (spn_bad (p := p) hok)
    have HV := Lib.hid (areOps_any v l _ HL0.out)
    rw [hok] at HV
    obtain ⟨A, N, c, rfl, hbig, hln, gl⟩ := hl
    clear hok gl hln hcp
    go_enter Tryd.func17, Tryd.ntmps17
    go_wp2_with fail
    refine HV.out.mono ?_
    rintro e w1 ⟨rfl, hb1⟩
    have HB1 := Lib.hid (HB0.out.trans (hb1.mono HB0.out.size))
    clear hb1
    go_wp2
    go_ret3
    exact ⟨by rw [HN.out]; rfl, HB1.out⟩
  have HV := Lib.hid (areOps_any v l _ HL0.out)
  rw [hok] at HV
  have HQ1 := Lib.hid (fun (w1 : World) (h : Below w.heap.size w w1) => passes_any 24 v l w1 ((hl.below h).more h.size) hok)
  have HQ2 := Lib.hid (fun (w1 : World) (v1 : Value) (h : RdPs w1 w1.heap.size v1 (psL l)) => containsPs_any v1 (psL l) p w1 h)
  by_cases hm : p ∈ psL l
  case neg =>
    have HN := Lib.hid (spn_none hok hm)
    have HC := Lib.hid (show decide (p ∈ psL l) = false by simpa using hm)
    rw [HC.out] at HQ2
    obtain ⟨A, N, c, rfl, hbig, hln, gl⟩ := hl
    clear hok gl hln hcp hm
    go_enter Tryd.func17, Tryd.ntmps17
    go_wp2_with fail
    refine HV.out.mono ?_
    rintro e w1 ⟨rfl, hb1⟩
    have HB1 := Lib.hid (HB0.out.trans (hb1.mono HB0.out.size))
    have HP1 := Lib.hid (HP0.out.below hb1 HZ0.out)
    have hz1 : w.heap.size < w1.heap.size := Nat.lt_of_lt_of_le HZ0.out hb1.size
    clear hb1 HP0 HZ0 HL0
    obtain ⟨p0, p1, p2, p3, p4, p5⟩ := HP1.out.six
    go_wp2
    go_region_with ((first | (go_at_call 45; refine (HQ1.out _ HB1.out.drew).mono ?_; rintro e w2 ⟨v2, rfl, ho, hb2⟩; obtain ⟨A2, c2, rfl, -⟩ := ho.cells; have HO2 := Lib.hid (RdS.of_own Pas.len ho); have HB21 : Hid (Below w1.heap.size w1 w2) := Lib.hid ((Below.refl _ _).drew.trans hb2); obtain ⟨q0, q1, q2, q3, q4, q5⟩ := (HP1.out.below HB21.out hz1).six; clear hb2 ho) | (go_at_call 51; refine (HQ2.out _ _ HO2.out).mono ?_; rintro e w3 ⟨rfl, hb3⟩; have HB31 := Lib.hid (HB21.out.trans (hb3.mono HB21.out.size)); have HB3 := Lib.hid (HB1.out.trans (HB31.out.mono HB1.out.size)); clear hb3)))
    all_goals clear p0 p1 p2 p3 p4 p5 q0 q1 q2 q3 q4 q5 HO2 HB21
    all_goals
      go_wp2
      go_ret3
      exact ⟨by rw [HN.out]; rfl, HB3.out⟩
  have HN := Lib.hid (spn_yes hok hm)
  have HC := Lib.hid (show decide (p ∈ psL l) = true by simpa using hm)
  rw [HC.out] at HQ2
  have hin := psL_in hok hm
  have HOK := Lib.hid (fun (k : Nat) (x : Opr) (hx : l[k]? = some x) => okOp_fa (ops_at hok hx))
  obtain ⟨pk, pd, pc, pr, pf, pn⟩ := p
  obtain ⟨hf0, hn1, hfn, hr0, hr1⟩ := hin
  simp only at hf0 hn1 hfn hr0 hr1
  obtain ⟨f, rfl⟩ : ∃ f : Nat, pf = f := ⟨pf.toNat, by omega⟩
  obtain ⟨n, rfl⟩ : ∃ n : Nat, pn = n := ⟨pn.toNat, by omega⟩
  have hlen := ops_len hok
  obtain ⟨A, N, c, rfl, hbig, hln, gl⟩ := hl
  have hlN := hln.out
  have hfN : f + n ≤ N := by omega
  have hN : N ≤ 1500 := by omega
  have GL := Lib.hid gl
  clear gl hln hm hok hfn hlen hlN
  obtain ⟨cap0, hcap⟩ : ∃ c0, c0 = c := ⟨_, rfl⟩
  have hcN : N ≤ c := by
    obtain ⟨A', n', c', e, h⟩ := hcp
    injection e with e1 e2 e3
    subst e1 e2 e3
    exact h
  clear hcp hcap cap0
  go_enter Tryd.func17, Tryd.ntmps17
  go_wp2_with fail
  refine HV.out.mono ?_
  rintro e w1 ⟨rfl, hb1⟩
  have HB1 := Lib.hid (HB0.out.trans (hb1.mono HB0.out.size))
  have HP1 := Lib.hid (HP0.out.below hb1 HZ0.out)
  have hz1 : w.heap.size < w1.heap.size := Nat.lt_of_lt_of_le HZ0.out hb1.size
  clear hb1 HP0 HZ0 HL0
  obtain ⟨p0, p1, p2, p3, p4, p5⟩ := HP1.out.six
  go_wp2
  go_region_with ((first | (go_at_call 45; refine (HQ1.out _ HB1.out.drew).mono ?_; rintro e w2 ⟨v2, rfl, ho, hb2⟩; obtain ⟨A2, c2, rfl, -⟩ := ho.cells; have HO2 := Lib.hid (RdS.of_own Pas.len ho); have HB21 : Hid (Below w1.heap.size w1 w2) := Lib.hid ((Below.refl _ _).drew.trans hb2); obtain ⟨q0, q1, q2, q3, q4, q5⟩ := (HP1.out.below HB21.out hz1).six; clear hb2 ho) | (go_at_call 51; refine (HQ2.out _ _ HO2.out).mono ?_; rintro e w3 ⟨rfl, hb3⟩; have HB31 := Lib.hid (HB21.out.trans (hb3.mono HB21.out.size)); have HB3 := Lib.hid (HB1.out.trans (HB31.out.mono HB1.out.size)); clear hb3)))
  all_goals clear p0 p1 p2 p3 p4 p5 q0 q1 q2 q3 q4 q5 HO2 HB21
  all_goals
    have hz3 : w.heap.size < w3.heap.size := Nat.lt_of_lt_of_le hz1 HB31.out.size
    obtain ⟨b, off, x, rfl, hbb, hlk, hcx⟩ := GL.out f (by omega)
    have hcx3 := hcx.below HB3.out hbb
    have HZ := Lib.hid (show spnZ l ⟨pk, pd, pc, pr, f, n⟩ = plc x.fb x.fa pr by unfold spnZ; simp only [Int.toNat_natCast]; rw [hlk])
    have hfx := HOK.out f x hlk
    have HQP := Lib.hid (fun w' => place_any x.fb x.fa pr hfx.1 hfx.2 (by omega) (by omega) w')
    have HP3 := Lib.hid (HP1.out.below HB31.out hz1)
    clear hlk hfx hcx HQ1 HQ2
    rw [HZ.out] at HN
    generalize plc x.fb x.fa pr = z0 at *
    have hpg := HP3.out.grow6
    have hxg := hcx3.grow8
    obtain ⟨p0, p1, p2, p3, p4, p5⟩ := hpg
    obtain ⟨x0, x1, x2, x3, x4, x5, x6, x7⟩ := hxg
    go_wp2
    refine wp_region_grow (by kernel_rfl) (by kernel_rfl) ?_
    repeat (go_big_quiet_step ((go_at_call 52; exact calls_grow (HQP.out _))))
    refine wpQuiet_nil ?_
    intro w4 hb4
    clear p0 p1 p2 p3 p4 p5 x0 x1 x2 x3 x4 x5 x6 x7 hcx3 HZ
    have HB4 := Lib.hid (HB3.out.trans (hb4.mono HB3.out.size))
    have HP4 := Lib.hid (HP3.out.below hb4 hz3)
    have hz4 : w.heap.size < w4.heap.size := Nat.lt_of_lt_of_le hz3 hb4.size
    obtain ⟨p0, p1, p2, p3, p4, p5⟩ := HP4.out.six
    have hwr : IntKind.i64.wrap ((f : Int) + (n : Int)) = ((f + n : Nat) : Int) := by rw [IntWalk.i64_in _ (by omega)]; omega
    clear hb4
    go_wp2
    clear p0 p1 p2 p3 p4 p5 hwr HQP
    generalize hS : spnS l ⟨pk, pd, pc, pr, f, n⟩ = S at *
    generalize hLO : lowG pr z0 S = LO at *
    generalize hHI : highG pr z0 S = HI at *
    have HLO := Lib.hid (show LO = lowG pr z0 (S.drop 0) from hLO.symm)
    have HHI := Lib.hid (show HI = highG pr z0 (S.drop 0) from hHI.symm)
    have HSA := Lib.hid (fun k (hk : k < n) => show S[k]? = l[f + k]? by rw [← hS]; exact spnS_at rfl rfl hk)
    have HSL := Lib.hid (show S.length ≤ n by rw [← hS]; exact spnS_len rfl rfl)
    clear hS hLO hHI
    go_loopw [7, 8, 39] (fun lo hi i wr => ∃ (k : Nat) (zl zh : Int), k ≤ n ∧ i = .int .i64 k ∧ lo = .int .i64 zl ∧ hi = .int .i64 zh ∧ Hid (LO = lowG pr zl (S.drop k)) ∧ Hid (HI = highG pr zh (S.drop k)) ∧ Hid (CellsAt wr w.heap.size 0 [.int .i64 pk, .int .i64 pd, .int .i64 pc, .int .i64 pr, .int .i64 f, .int .i64 n]) ∧ Hid (w.heap.size < wr.heap.size) ∧ Hid (Below w.heap.size w wr)) (fun _ _ i _ => n - (intOf i).toNat)
    case atStart => exact ⟨0, z0, z0, Nat.zero_le _, rfl, rfl, rfl, HLO.out, HHI.out, HP4.out, hz4, HB4.out⟩
    case round =>
      rename_i wr
      obtain ⟨k, zl, zh, hk, rfl, rfl, rfl, HL, HH, HP, HZ, HB⟩ := hrel
      have hz := HZ.out
      by_cases hlt : k < n
      · obtain ⟨b', off', x', hA, hbb', hlk, hcx⟩ := GL.out (f + k) (by omega)
        injection hA with hA
        injection hA with e1 e2
        subst e1 e2
        have hfx := HOK.out (f + k) x' hlk
        have HQP := Lib.hid (fun w' => place_any x'.fb x'.fa pr hfx.1 hfx.2 (by omega) (by omega) w')
        have hsk : S[k]? = some x' := by rw [HSA.out k hlt, hlk]
        have HL2 := Lib.hid (low_step HL.out hsk)
        have HH2 := Lib.hid (high_step HH.out hsk)
        have e : off + (f + k) * 8 = off + f * 8 + k * 8 := by omega
        rw [e] at hcx
        obtain ⟨c0, c1, c2, c3, c4, c5, c6, c7⟩ := (hcx.below HB.out hbb').eight
        have hpa := fun o => (HP.out.alloc hz o).six
        have pa3 := fun o => (hpa o).2.2.2.1
        have HXB : Hid (CellsAt (wr.alloc (.cells #[.int .i64 x'.k, .int .i64 x'.d, .int .i64 x'.fb, .int .i64 x'.fa, .int .i64 x'.tb, .int .i64 x'.ta, .int .i64 x'.c, .int .i64 x'.r] 52)) wr.heap.size 0 x'.cells) := fun j u hu => by
          rcases j with _ | _ | _ | _ | _ | _ | _ | _ | j <;> simp at hu <;> subst hu <;> simp [go_sem]
        clear hlk hfx hsk hcx hpa e HL HH
        generalize plc x'.fb x'.fa pr = y at *
        by_cases h1 : y < zl
        · by_cases h2 : zh < y
          · skip
            go_wp2_with fail
            refine (HQP.out _).mono ?_
            rintro e w5 ⟨rfl, hb5⟩
            have hbw := (Below.refl wr.heap.size wr).alloc (Nat.le_refl _) (.cells #[.int .i64 x'.k, .int .i64 x'.d, .int .i64 x'.fb, .int .i64 x'.fa, .int .i64 x'.tb, .int .i64 x'.ta, .int .i64 x'.c, .int .i64 x'.r] 52)
            have HB5 := Lib.hid (hbw.trans (hb5.mono hbw.size))
            obtain ⟨y0, y1, y2, y3, y4, y5, y6, y7⟩ := (HXB.out.below hb5 (by simp)).eight
            have hz5 : wr.heap.size < w5.heap.size := Nat.lt_of_lt_of_le (by simp) hb5.size
            have p3 := (HP.out.below HB5.out hz).six.2.2.2.1
            clear hb5 hbw c0 c1 c2 c3 c4 c5 c6 c7 pa3
            go_wp2_with fail
            refine (HQP.out _).mono ?_
            rintro e w6 ⟨rfl, hb6⟩
            have HB6 := Lib.hid (HB5.out.trans (hb6.mono HB5.out.size))
            have hz6 : w5.heap.size ≤ w6.heap.size := hb6.size
            clear hb6 p3 y0 y1 y2 y3 y4 y5 y6 y7
            go_wp2
            exact ⟨⟨k + 1, _, _, by omega, by go_num, rfl, rfl, (by have hq := HL2.out; unfold mn at hq; first | (rw [if_pos (show y < zl by omega)] at hq; exact hq) | (rw [if_neg (show ¬ y < zl by omega)] at hq; exact hq)), (by have hq := HH2.out; unfold mx at hq; first | (rw [if_pos (show zh < y by omega)] at hq; exact hq) | (rw [if_neg (show ¬ zh < y by omega)] at hq; exact hq)), HP.out.below HB6.out hz, by show w.heap.size < w6.heap.size; omega, HB.out.trans (HB6.out.mono HB.out.size)⟩, by simp [intOf]; omega⟩
          · skip
            go_wp2_with fail
            refine (HQP.out _).mono ?_
            rintro e w5 ⟨rfl, hb5⟩
            have hbw := (Below.refl wr.heap.size wr).alloc (Nat.le_refl _) (.cells #[.int .i64 x'.k, .int .i64 x'.d, .int .i64 x'.fb, .int .i64 x'.fa, .int .i64 x'.tb, .int .i64 x'.ta, .int .i64 x'.c, .int .i64 x'.r] 52)
            have HB5 := Lib.hid (hbw.trans (hb5.mono hbw.size))
            obtain ⟨y0, y1, y2, y3, y4, y5, y6, y7⟩ := (HXB.out.below hb5 (by simp)).eight
            have hz5 : wr.heap.size < w5.heap.size := Nat.lt_of_lt_of_le (by simp) hb5.size
            have p3 := (HP.out.below HB5.out hz).six.2.2.2.1
            clear hb5 hbw c0 c1 c2 c3 c4 c5 c6 c7 pa3
            go_wp2_with fail
            refine (HQP.out _).mono ?_
            rintro e w6 ⟨rfl, hb6⟩
            have HB6 := Lib.hid (HB5.out.trans (hb6.mono HB5.out.size))
            have hz6 : w5.heap.size ≤ w6.heap.size := hb6.size
            clear hb6 p3 y0 y1 y2 y3 y4 y5 y6 y7
            go_wp2
            exact ⟨⟨k + 1, _, _, by omega, by go_num, rfl, rfl, (by have hq := HL2.out; unfold mn at hq; first | (rw [if_pos (show y < zl by omega)] at hq; exact hq) | (rw [if_neg (show ¬ y < zl by omega)] at hq; exact hq)), (by have hq := HH2.out; unfold mx at hq; first | (rw [if_pos (show zh < y by omega)] at hq; exact hq) | (rw [if_neg (show ¬ zh < y by omega)] at hq; exact hq)), HP.out.below HB6.out hz, by show w.heap.size < w6.heap.size; omega, HB.out.trans (HB6.out.mono HB.out.size)⟩, by simp [intOf]; omega⟩
        · by_cases h2 : zh < y
          · skip
            go_wp2_with fail
            refine (HQP.out _).mono ?_
            rintro e w5 ⟨rfl, hb5⟩
            have hbw := (Below.refl wr.heap.size wr).alloc (Nat.le_refl _) (.cells #[.int .i64 x'.k, .int .i64 x'.d, .int .i64 x'.fb, .int .i64 x'.fa, .int .i64 x'.tb, .int .i64 x'.ta, .int .i64 x'.c, .int .i64 x'.r] 52)
            have HB5 := Lib.hid (hbw.trans (hb5.mono hbw.size))
            obtain ⟨y0, y1, y2, y3, y4, y5, y6, y7⟩ := (HXB.out.below hb5 (by simp)).eight
            have hz5 : wr.heap.size < w5.heap.size := Nat.lt_of_lt_of_le (by simp) hb5.size
            have p3 := (HP.out.below HB5.out hz).six.2.2.2.1
            clear hb5 hbw c0 c1 c2 c3 c4 c5 c6 c7 pa3
            go_wp2_with fail
            refine (HQP.out _).mono ?_
            rintro e w6 ⟨rfl, hb6⟩
            have HB6 := Lib.hid (HB5.out.trans (hb6.mono HB5.out.size))
            have hz6 : w5.heap.size ≤ w6.heap.size := hb6.size
            clear hb6 p3 y0 y1 y2 y3 y4 y5 y6 y7
            go_wp2
            exact ⟨⟨k + 1, _, _, by omega, by go_num, rfl, rfl, (by have hq := HL2.out; unfold mn at hq; first | (rw [if_pos (show y < zl by omega)] at hq; exact hq) | (rw [if_neg (show ¬ y < zl by omega)] at hq; exact hq)), (by have hq := HH2.out; unfold mx at hq; first | (rw [if_pos (show zh < y by omega)] at hq; exact hq) | (rw [if_neg (show ¬ zh < y by omega)] at hq; exact hq)), HP.out.below HB6.out hz, by show w.heap.size < w6.heap.size; omega, HB.out.trans (HB6.out.mono HB.out.size)⟩, by simp [intOf]; omega⟩
          · skip
            go_wp2_with fail
            refine (HQP.out _).mono ?_
            rintro e w5 ⟨rfl, hb5⟩
            have hbw := (Below.refl wr.heap.size wr).alloc (Nat.le_refl _) (.cells #[.int .i64 x'.k, .int .i64 x'.d, .int .i64 x'.fb, .int .i64 x'.fa, .int .i64 x'.tb, .int .i64 x'.ta, .int .i64 x'.c, .int .i64 x'.r] 52)
            have HB5 := Lib.hid (hbw.trans (hb5.mono hbw.size))
            obtain ⟨y0, y1, y2, y3, y4, y5, y6, y7⟩ := (HXB.out.below hb5 (by simp)).eight
            have hz5 : wr.heap.size < w5.heap.size := Nat.lt_of_lt_of_le (by simp) hb5.size
            have p3 := (HP.out.below HB5.out hz).six.2.2.2.1
            clear hb5 hbw c0 c1 c2 c3 c4 c5 c6 c7 pa3
            go_wp2_with fail
            refine (HQP.out _).mono ?_
            rintro e w6 ⟨rfl, hb6⟩
            have HB6 := Lib.hid (HB5.out.trans (hb6.mono HB5.out.size))
            have hz6 : w5.heap.size ≤ w6.heap.size := hb6.size
            clear hb6 p3 y0 y1 y2 y3 y4 y5 y6 y7
            go_wp2
            exact ⟨⟨k + 1, _, _, by omega, by go_num, rfl, rfl, (by have hq := HL2.out; unfold mn at hq; first | (rw [if_pos (show y < zl by omega)] at hq; exact hq) | (rw [if_neg (show ¬ y < zl by omega)] at hq; exact hq)), (by have hq := HH2.out; unfold mx at hq; first | (rw [if_pos (show zh < y by omega)] at hq; exact hq) | (rw [if_neg (show ¬ zh < y by omega)] at hq; exact hq)), HP.out.below HB6.out hz, by show w.heap.size < w6.heap.size; omega, HB.out.trans (HB6.out.mono HB.out.size)⟩, by simp [intOf]; omega⟩
      · have HE1 := Lib.hid (low_end HL.out (by have := HSL.out; omega))
        have HE2 := Lib.hid (high_end HH.out (by have := HSL.out; omega))
        go_wp2
        go_ret3
        exact ⟨by rw [HN.out, HE1.out, HE2.out]; rfl, HB.out⟩

end Go.Proofs.YtccdnmafakaleaaDoor
