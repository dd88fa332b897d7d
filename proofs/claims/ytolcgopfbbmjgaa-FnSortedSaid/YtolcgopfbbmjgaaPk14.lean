/-
  Texts joined: So3, CpA, CpB, CpC, UkA, UkB, UkC, SMc, McSh, OpenB.
-/
import Derived.Test.YtolcgopfbbmjgaaOp
import Derived.BigQuiet
import Derived.Deep.DeepBigQuietO
import Derived.Test.YtolcgopfbbmjgaaPk4
import Derived.Test.YtolcgopfbbmjgaaMcTo
import Derived.Test.YtolcgopfbbmjgaaPk6
import Derived.Test.YtolcgopfbbmjgaaPk1
import Derived.Test.YtolcgopfbbmjgaaPk2
import Derived.StillTailTactics
import Derived.Test.YtolcgopfbbmjgaaCont
import Derived.Test.YtolcgopfbbmjgaaPk3
import Derived.Test.YtolcgopfbbmjgaaMc
import Derived.Test.YtolcgopfbbmjgaaOpen
/-
  Are two rows of operations the same? (of the laws; at two readings of one list)
-/
namespace Go.Proofs.Ytolcgopfbbmjgaa
set_option linter.unusedVariables false
set_option linter.unusedSimpArgs false
open Go.RowKit

set_option maxHeartbeats 4000000 in
set_option maxRecDepth 100000 in
theorem a2Ops_same (v u : Value) (l : List Opr) (w : World) (hl : RdO w w.heap.size v l) (hm : RdO w w.heap.size u l) :
    Calls Try.prog 17 #[v, u] w fun e w' => e = .returned (.bool true) ∧ Below w.heap.size w w' := by
  have mixed : Try.prog.follows Departure.mixedOrders = true := by kernel_rfl
  obtain ⟨A, n, c, rfl, hln, hl, gl⟩ := hl
  obtain ⟨A', n', c', rfl, hmn, hm, gm⟩ := hm
  obtain rfl : n = n' := hl.out.symm.trans hm.out
  have GL := Lib.hid gl
  have GM := Lib.hid gm
  clear gl gm hl hm
  go_enter Try.func17, Try.ntmps17
  go_wp2
  go_loopw [5] (fun s5 wr => ∃ k : Nat, k ≤ n ∧ s5 = .int .i64 k ∧ Hid (Below w.heap.size w wr)) (fun s5 _ => n - (intOf s5).toNat)
  case atStart => exact ⟨0, Nat.zero_le _, rfl, Below.refl _ _⟩
  case round =>
    rename_i wr
    obtain ⟨k, hk, rfl, HB⟩ := hrel
    by_cases hlt : k < n
    · obtain ⟨b, off, x, rfl, hbb, hlk, hc⟩ := GL.out k hlt
      obtain ⟨b', off', y, rfl, hbb', hmk, hc'⟩ := GM.out k hlt
      obtain rfl : x = y := by rw [hlk] at hmk; injection hmk
      obtain ⟨e0, e1, e2, e3, e4, e5, e6, e7⟩ := (hc.below HB.out hbb).eight
      obtain ⟨f0, f1, f2, f3, f4, f5, f6, f7⟩ := (hc'.below HB.out hbb').eight
      have q := fun W => neq_op x x W
      simp only [decide_true, Bool.not_true] at q
      have hkz : (k : Int) < (n : Int) := by omega
      clear hc hc' hlk hmk hbb hbb'
      go_wp2_with fail
      go_big_quiet_o (fail)
      go_wp2
      exact ⟨⟨k + 1, by omega, by go_num, by first | exact HB.out | exact HB.out.trans ⟨rfl, rfl, rfl, Nat.le_refl _, fun _ _ => rfl⟩⟩, by simp [intOf]; omega⟩
    · go_wp2
      go_ret
      exact ⟨rfl, HB.out⟩

end Go.Proofs.Ytolcgopfbbmjgaa

/-
  Clones of rows, and the program's copyLists: each list in a block of its own.
-/
namespace Go.Proofs.Ytolcgopfbbmjgaa
set_option linter.unusedVariables false
set_option linter.unusedSimpArgs false
open Go.RowKit

theorem own_of_rowIs {w : World} {B b t n : Nat} {f : Nat → Value} (h : w.rowIs b t n f) (hB : B ≤ b) (hn : n ≤ maxLen) : w.ownsRow B t 1 (.slice (some ⟨b, 0, none⟩) n n) n ((List.range n).map f) := by
  obtain ⟨cur, h1, h2, h3⟩ := h
  refine ⟨by simp, .inr ⟨b, n, cur, rfl, hB, h1, Nat.le_refl _, hn, by omega, ?_⟩⟩
  rw [List.take_of_length_le (by simp; omega)]
  refine List.ext_getElem? fun i => ?_
  by_cases hi : i < n
  · rw [Array.getElem?_toList, h3 i hi, List.getElem?_map, List.getElem?_range hi]; rfl
  · rw [List.getElem?_eq_none (by simp; omega), List.getElem?_eq_none (by simp; omega)]
/-- Lists that were copied: row 0 holds their headers. -/
structure Lists (w : World) (B : Nat) (v : Value) (l : List (List Int)) (T : Nat → Spot) : Prop where
  sp : SpotsT w B T
  hd : ∃ xs, T 0 = ⟨39, 1, v, l.length, xs⟩ ∧ ∀ k, k < l.length → xs[k]? = some (T (k + 1)).v
  ls : ∀ k x, l[k]? = some x → T (k + 1) = spI (T (k + 1)).v x
def CopyLL (w : World) (l : List (List Int)) (e : Ending) (w' : World) : Prop := ∃ v T, e = .returned v ∧ Lists w' w.heap.size v l T ∧ Below w.heap.size w w'

end Go.Proofs.Ytolcgopfbbmjgaa

/-
  A machine put together of rows that stand one behind the other; the program's copyMachine.
-/
namespace Go.Proofs.Ytolcgopfbbmjgaa
set_option linter.unusedVariables false
set_option linter.unusedSimpArgs false
open Go.RowKit

/-- Which family a row belongs to, and its number there. -/
def fam (j : Nat) : Nat := if j < 6 then j else if j % 3 = 0 then 1 else if j % 3 = 1 then 2 else 4
def inx (j : Nat) : Nat := if j < 6 then 0 else (j - 6) / 3 + 1
theorem fam_cases (i : Nat) : (i < 6 ∧ fam i = i ∧ inx i = 0) ∨ (6 ≤ i ∧ inx i = (i - 6) / 3 + 1 ∧ (i % 3 = 0 ∧ fam i = 1 ∨ i % 3 = 1 ∧ fam i = 2 ∨ i % 3 = 2 ∧ fam i = 4)) := by
  unfold fam inx
  by_cases h : i < 6
  · exact .inl ⟨h, if_pos h, if_pos h⟩
  · refine .inr ⟨by omega, if_neg h, ?_⟩
    rw [if_neg h]
    by_cases h0 : i % 3 = 0
    · exact .inl ⟨h0, if_pos h0⟩
    · rw [if_neg h0]
      by_cases h1 : i % 3 = 1
      · exact .inr (.inl ⟨h1, if_pos h1⟩)
      · exact .inr (.inr ⟨by omega, if_neg h1⟩)
theorem fam_inj {i j : Nat} (h : fam i = fam j) (h' : inx i = inx j) : i = j := by
  rcases fam_cases i with ⟨a1, a2, a3⟩ | ⟨a1, a2, a3⟩ <;> rcases fam_cases j with ⟨b1, b2, b3⟩ | ⟨b1, b2, b3⟩
  · omega
  · omega
  · omega
  · rcases a3 with ⟨a3, a4⟩ | ⟨a3, a4⟩ | ⟨a3, a4⟩ <;> rcases b3 with ⟨b3, b4⟩ | ⟨b3, b4⟩ | ⟨b3, b4⟩ <;> omega
theorem fam_lt (i : Nat) : fam i < 6 := by
  rcases fam_cases i with ⟨a1, a2, a3⟩ | ⟨a1, a2, ⟨a3, a4⟩ | ⟨a3, a4⟩ | ⟨a3, a4⟩⟩ <;> omega
theorem fam_iF (k : Nat) : fam (iF k) = 1 ∧ inx (iF k) = k + 1 := by
  have h : iF k = 3 * k + 6 := rfl
  rcases fam_cases (iF k) with ⟨a1, a2, a3⟩ | ⟨a1, a2, ⟨a3, a4⟩ | ⟨a3, a4⟩ | ⟨a3, a4⟩⟩ <;> constructor <;> omega
theorem fam_iB (k : Nat) : fam (iB k) = 2 ∧ inx (iB k) = k + 1 := by
  have h : iB k = 3 * k + 7 := rfl
  rcases fam_cases (iB k) with ⟨a1, a2, a3⟩ | ⟨a1, a2, ⟨a3, a4⟩ | ⟨a3, a4⟩ | ⟨a3, a4⟩⟩ <;> constructor <;> omega
theorem fam_iP (k : Nat) : fam (iP k) = 4 ∧ inx (iP k) = k + 1 := by
  have h : iP k = 3 * k + 8 := rfl
  rcases fam_cases (iP k) with ⟨a1, a2, a3⟩ | ⟨a1, a2, ⟨a3, a4⟩ | ⟨a3, a4⟩ | ⟨a3, a4⟩⟩ <;> constructor <;> omega
/-- Families of rows, each in blocks of its own window. -/
structure Fams (w : World) (a : Nat → Nat) (T : Nat → Nat → Spot) : Prop where
  sp : ∀ c, c < 6 → SpotsT w (a c) (T c)
  up : ∀ c j g, c < 6 → (T c j).v.ownBlock = some g → g < a (c + 1)
  le : ∀ c, c < 6 → a c ≤ a (c + 1)
theorem Fams.mono {w : World} {a : Nat → Nat} {T : Nat → Nat → Spot} (h : Fams w a T) : ∀ (d c : Nat), c ≤ d → d ≤ 6 → a c ≤ a d
  | 0, c, h1, _ => by obtain rfl : c = 0 := by omega
                      exact Nat.le_refl _
  | d + 1, c, h1, h2 => by
    by_cases e : c = d + 1
    · rw [e]; exact Nat.le_refl _
    · exact Nat.le_trans (h.mono d c (by omega) (by omega)) (h.le d (by omega))
theorem Fams.join {w : World} {a : Nat → Nat} {T : Nat → Nat → Spot} (h : Fams w a T) : SpotsT w (a 0) (fun j => T (fam j) (inx j)) := fun N =>
  ⟨fun j _ => own_base ((h.sp _ (fam_lt j)).own (inx j)) (h.mono _ _ (Nat.zero_le _) (by have := fam_lt j; omega)), fun i j g _ _ hij hg hg' => by
    by_cases e : fam i = fam j
    · have hg2 : (T (fam i) (inx j)).v.ownBlock = some g := by rw [e]; exact hg'
      exact (h.sp _ (fam_lt i)).dis (fun e' => hij (fam_inj e e')) hg hg2
    · have h1 := ((h.sp _ (fam_lt i)).lt hg).1
      have h2 := ((h.sp _ (fam_lt j)).lt hg').1
      have h3 := h.up _ _ _ (fam_lt i) hg
      have h4 := h.up _ _ _ (fam_lt j) hg'
      have hi := fam_lt i
      have hj := fam_lt j
      by_cases e2 : fam i < fam j
      · have := h.mono (fam j) (fam i + 1) (by omega) (by omega)
        omega
      · have := h.mono (fam i) (fam j + 1) (by omega) (by omega)
        omega⟩
def one1 (s : Spot) : Nat → Spot := fun j => if j = 0 then s else Spot.none_ 0 0
theorem one1_sp {w : World} {B : Nat} {s : Spot} (h : s.owned w B) : SpotsT w B (one1 s) := fun N => ⟨fun j _ => by
    unfold one1
    by_cases e : j = 0
    · rw [if_pos e]; exact h
    · rw [if_neg e]; exact World.ownsRow_nil _ _ _ _, fun i j g _ _ hij hg => by
    unfold one1 at hg ⊢
    by_cases e : i = 0
    · rw [if_neg (show ¬ j = 0 by omega)]
      intro h; cases h
    · rw [if_neg e] at hg
      cases hg⟩
theorem one1_up {s : Spot} {j g b : Nat} (hs : ∀ g, s.v.ownBlock = some g → g < b) (h : (one1 s j).v.ownBlock = some g) : g < b := by
  unfold one1 at h
  by_cases e : j = 0
  · rw [if_pos e] at h; exact hs g h
  · rw [if_neg e] at h; cases h
/-- Loops whose parents' rows were copied. -/
structure Pars (w : World) (B : Nat) (v : Value) (l : List Inf) (T : Nat → Spot) : Prop where
  sp : SpotsT w B T
  hd : ∃ xs, T 0 = ⟨76, 6, v, l.length, xs⟩ ∧ ∀ k x, l[k]? = some x → ∀ j u, [Value.int .i64 x.k, .int .i64 x.y, .int .i64 x.b, .int .i64 x.p, .int .i64 x.d, (T (k + 1)).v][j]? = some u → xs[k * 6 + j]? = some u
  ls : ∀ k x, l[k]? = some x → T (k + 1) = spI (T (k + 1)).v x.ps
theorem MSt.join {w : World} {g a0 a1 a2 a3 a4 a5 a6 : Nat} {m : Mc} {vF vB vC vL vD : Value} {TF TB TP : Nat → Spot}
    (hbox : w.ownsRow a0 41 7 (.slice (some ⟨g, 0, none⟩) 1 1) 1 [.int .i64 m.wd, .int .i64 m.rk, vF, vB, vC, vL, vD]) (hg : g < a1)
    (hF : Lists w a1 vF m.fr TF) (uF : ∀ j g, (TF j).v.ownBlock = some g → g < a2) (hB : Lists w a2 vB m.bk TB) (uB : ∀ j g, (TB j).v.ownBlock = some g → g < a3)
    (hC : w.ownsRow a3 74 2 vC m.cs.length (vS Car.cells m.cs)) (uC : ∀ g, vC.ownBlock = some g → g < a4)
    (hP : Pars w a4 vL m.ls TP) (uP : ∀ j g, (TP j).v.ownBlock = some g → g < a5) (hD : w.ownsRow a5 2 1 vD m.dr.length (vI m.dr)) (uD : ∀ g, vD.ownBlock = some g → g < a6)
    (l0 : a0 ≤ a1) (l1 : a1 ≤ a2) (l2 : a2 ≤ a3) (l3 : a3 ≤ a4) (l4 : a4 ≤ a5) (l5 : a5 ≤ a6) :
    ∃ S, MSt w a0 g m S ∧ (S 1).v = vF ∧ (S 2).v = vB ∧ (S 3).v = vC ∧ (S 4).v = vL ∧ (S 5).v = vD := by
  obtain ⟨xF, eF, hxF⟩ := hF.hd
  obtain ⟨xB, eB, hxB⟩ := hB.hd
  obtain ⟨xP, eP, hxP⟩ := hP.hd
  have hJ : Fams w (fun c => if c = 0 then a0 else if c = 1 then a1 else if c = 2 then a2 else if c = 3 then a3 else if c = 4 then a4 else if c = 5 then a5 else a6)
      (fun c => if c = 0 then one1 ⟨41, 7, .slice (some ⟨g, 0, none⟩) 1 1, 1, [.int .i64 m.wd, .int .i64 m.rk, vF, vB, vC, vL, vD]⟩ else if c = 1 then TF else if c = 2 then TB else if c = 3 then one1 ⟨74, 2, vC, m.cs.length, vS Car.cells m.cs⟩ else if c = 4 then TP else one1 (spI vD m.dr)) := by
    refine ⟨fun c hc => ?_, fun c j g' hc hg' => ?_, fun c hc => ?_⟩
    · obtain rfl | rfl | rfl | rfl | rfl | rfl : c = 0 ∨ c = 1 ∨ c = 2 ∨ c = 3 ∨ c = 4 ∨ c = 5 := by omega
      · exact one1_sp hbox
      · exact hF.sp
      · exact hB.sp
      · exact one1_sp hC
      · exact hP.sp
      · exact one1_sp hD
    · obtain rfl | rfl | rfl | rfl | rfl | rfl : c = 0 ∨ c = 1 ∨ c = 2 ∨ c = 3 ∨ c = 4 ∨ c = 5 := by omega
      · exact one1_up (b := a1) (fun q hq => by have hq' : g = q := by injection hq
                                                omega) hg'
      · exact uF j g' hg'
      · exact uB j g' hg'
      · exact one1_up (b := a4) uC hg'
      · exact uP j g' hg'
      · exact one1_up (b := a6) uD hg'
    · obtain rfl | rfl | rfl | rfl | rfl | rfl : c = 0 ∨ c = 1 ∨ c = 2 ∨ c = 3 ∨ c = 4 ∨ c = 5 := by omega
      all_goals simp; omega
  generalize hTT : (fun c => if c = 0 then one1 ⟨41, 7, .slice (some ⟨g, 0, none⟩) 1 1, 1, [.int .i64 m.wd, .int .i64 m.rk, vF, vB, vC, vL, vD]⟩ else if c = 1 then TF else if c = 2 then TB else if c = 3 then one1 ⟨74, 2, vC, m.cs.length, vS Car.cells m.cs⟩ else if c = 4 then TP else one1 (spI vD m.dr)) = TT at hJ
  have hsp : SpotsT w a0 (fun j => TT (fam j) (inx j)) := hJ.join
  have t0 : TT 0 = one1 ⟨41, 7, .slice (some ⟨g, 0, none⟩) 1 1, 1, [.int .i64 m.wd, .int .i64 m.rk, vF, vB, vC, vL, vD]⟩ := by rw [← hTT]; rfl
  have t1 : TT 1 = TF := by rw [← hTT]; rfl
  have t2 : TT 2 = TB := by rw [← hTT]; rfl
  have t3 : TT 3 = one1 ⟨74, 2, vC, m.cs.length, vS Car.cells m.cs⟩ := by rw [← hTT]; rfl
  have t4 : TT 4 = TP := by rw [← hTT]; rfl
  have t5 : TT 5 = one1 (spI vD m.dr) := by rw [← hTT]; rfl
  have s1 : (TT (fam 1) (inx 1)) = TF 0 := by show TT 1 0 = _; rw [t1]
  have s2 : (TT (fam 2) (inx 2)) = TB 0 := by show TT 2 0 = _; rw [t2]
  have s3 : (TT (fam 3) (inx 3)) = ⟨74, 2, vC, m.cs.length, vS Car.cells m.cs⟩ := by show TT 3 0 = _; rw [t3]; rfl
  have s4 : (TT (fam 4) (inx 4)) = TP 0 := by show TT 4 0 = _; rw [t4]
  have s5 : (TT (fam 5) (inx 5)) = spI vD m.dr := by show TT 5 0 = _; rw [t5]; rfl
  have sF : ∀ k, TT (fam (iF k)) (inx (iF k)) = TF (k + 1) := fun k => by rw [(fam_iF k).1, (fam_iF k).2, t1]
  have sB : ∀ k, TT (fam (iB k)) (inx (iB k)) = TB (k + 1) := fun k => by rw [(fam_iB k).1, (fam_iB k).2, t2]
  have sP : ∀ k, TT (fam (iP k)) (inx (iP k)) = TP (k + 1) := fun k => by rw [(fam_iP k).1, (fam_iP k).2, t4]
  refine ⟨fun j => TT (fam j) (inx j), ⟨hsp, ?_, ⟨xF, ?_, fun k hk => ?_⟩, ⟨xB, ?_, fun k hk => ?_⟩, ?_, ⟨xP, ?_, fun k x hx j u hu => ?_⟩, ?_, fun k x hx => ?_, fun k x hx => ?_, fun k x hx => ?_⟩, by show (TT (fam 1) (inx 1)).v = _; rw [s1, eF], by show (TT (fam 2) (inx 2)).v = _; rw [s2, eB], by show (TT (fam 3) (inx 3)).v = _; rw [s3], by show (TT (fam 4) (inx 4)).v = _; rw [s4, eP], by show (TT (fam 5) (inx 5)).v = _; rw [s5]⟩
  · show TT 0 0 = _
    rw [s1, s2, s3, s4, s5, t0, eF, eB, eP]
    rfl
  · rw [s1, eF]
  · rw [sF]; exact hxF k hk
  · rw [s2, eB]
  · rw [sB]; exact hxB k hk
  · rw [s3]
  · rw [s4, eP]
  · rw [sP] at hu; exact hxP k x hx j u hu
  · rw [s5]
  · rw [sF]; exact hF.ls k x hx
  · rw [sB]; exact hB.ls k x hx
  · rw [sP]; exact hP.ls k x hx
section
variable {w w' : World} {B : Nat} {v : Value} {T : Nat → Spot}
theorem Lists.keep {l : List (List Int)} (h : Lists w B v l T) (hk : ∀ q, B ≤ q → q < w.heap.size → w'.heap[q]? = w.heap[q]?) : Lists w' B v l T := ⟨h.sp.keep fun j g hg => hk g (h.sp.lt hg).1 (h.sp.lt hg).2, h.hd, h.ls⟩
theorem Pars.keep {l : List Inf} (h : Pars w B v l T) (hk : ∀ q, B ≤ q → q < w.heap.size → w'.heap[q]? = w.heap[q]?) : Pars w' B v l T := ⟨h.sp.keep fun j g hg => hk g (h.sp.lt hg).1 (h.sp.lt hg).2, h.hd, h.ls⟩
end
/-- Cells that the reading of loops meets, as one row. -/
theorem RdIs.reads {w : World} {B n c : Nat} {A : Option Addr} {l : List Inf} (h : RdIs w B (.slice A n c) l) : ∃ xs, Reads w B 6 A n xs ∧ l.length = n ∧ (∀ u ∈ xs, u.oneCell' = true) ∧ ∀ k x, l[k]? = some x → ∃ s, (∀ j u, [Value.int .i64 x.k, .int .i64 x.y, .int .i64 x.b, .int .i64 x.p, .int .i64 x.d, s][j]? = some u → xs[k * 6 + j]? = some u) ∧ RdI w B s x.ps ∧ ∃ A' c', s = .slice A' x.ps.length c' := by
  obtain ⟨A', n', c', e, hn, hl, h0⟩ := h
  injection e with e1 e2 e3
  subst e1 e2 e3
  have hat : ∀ k, k < n → ∃ b off x A1 c1, A = some ⟨b, off, none⟩ ∧ b < B ∧ l[k]? = some x ∧ CellsAt w b (off + k * 6) [.int .i64 x.k, .int .i64 x.y, .int .i64 x.b, .int .i64 x.p, .int .i64 x.d, .slice A1 x.ps.length c1] ∧ RdI w B (.slice A1 x.ps.length c1) x.ps ∧ x.ps.length ≤ c1 := fun k hk => RdIs.at_cap (c := c) (⟨A, n, c, rfl, hn, hl, h0⟩ : RdIs w B (.slice A n c) l) hk
  by_cases hz : n = 0
  · subst hz
    exact ⟨[], Reads.none_, hl.out, by simp, fun k x hx => by have := (List.getElem?_eq_some_iff.1 hx).1; have := hl.out; omega⟩
  · obtain ⟨b, off, -, -, -, hA, hbB, -⟩ := hat 0 (by omega)
    have hcell : ∀ i, i < n * 6 → ∃ u, w.cell? ⟨b, off + i, none⟩ = some u ∧ u.oneCell' = true := fun i hi => by
      obtain ⟨b', off', x, A1, c1, e, -, -, hc, -⟩ := hat (i / 6) (by omega)
      rw [hA] at e
      injection e with e
      injection e with q1 q2
      subst q1 q2
      obtain ⟨c0, c1', c2, c3, c4, c5⟩ := hc.six
      have hm : i % 6 < 6 := Nat.mod_lt _ (by omega)
      have e6 : off + i = off + i / 6 * 6 + i % 6 := by omega
      obtain h | h | h | h | h | h : i % 6 = 0 ∨ i % 6 = 1 ∨ i % 6 = 2 ∨ i % 6 = 3 ∨ i % 6 = 4 ∨ i % 6 = 5 := by omega
      all_goals rw [e6, h]
      · exact ⟨_, c0, rfl⟩
      · exact ⟨_, c1', rfl⟩
      · exact ⟨_, c2, rfl⟩
      · exact ⟨_, c3, rfl⟩
      · exact ⟨_, c4, rfl⟩
      · exact ⟨_, c5, rfl⟩
    refine ⟨(List.range (n * 6)).map fun i => (w.cell? ⟨b, off + i, none⟩).getD undef, ⟨by simp, fun _ => ⟨⟨b, off, none⟩, hA, hbB, fun j u hu => ?_⟩⟩, hl.out, fun u hu => ?_, fun k x hx => ?_⟩
    · have hj : j < n * 6 := by have := (List.getElem?_eq_some_iff.1 hu).1; simpa using this
      rw [List.getElem?_map, List.getElem?_range hj] at hu
      obtain ⟨u', hc, -⟩ := hcell j hj
      simp [hc] at hu
      subst hu
      have e : (⟨b, off, none⟩ : Addr).add j = ⟨b, off + j, none⟩ := by unfold Addr.add; split <;> simp_all
      rw [e]; exact hc
    · obtain ⟨i, hi, rfl⟩ := List.mem_map.1 hu
      obtain ⟨u', hc, ho⟩ := hcell i (by simpa using hi)
      rw [hc]; exact ho
    · have hk : k < n := by have := (List.getElem?_eq_some_iff.1 hx).1; have := hl.out; omega
      obtain ⟨b', off', x', A1, c1, e, -, hx', hc, hr, -⟩ := hat k hk
      rw [hA] at e
      injection e with e
      injection e with q1 q2
      subst q1 q2
      rw [hx] at hx'
      injection hx' with hx'
      subst hx'
      refine ⟨_, fun j u hu => ?_, hr, _, _, rfl⟩
      have hj : j < 6 := (List.getElem?_eq_some_iff.1 hu).1
      rw [List.getElem?_map, List.getElem?_range (by omega)]
      have h9 := hc j u hu
      rw [show off + k * 6 + j = off + (k * 6 + j) by omega] at h9
      simp [h9]

end Go.Proofs.Ytolcgopfbbmjgaa

/-
  The program's copyMachine.
-/
namespace Go.Proofs.Ytolcgopfbbmjgaa
set_option linter.unusedVariables false
set_option linter.unusedSimpArgs false
open Go.RowKit

/-- While a machine is copied: its box, and the result's. -/
structure Cpy (w : World) (us : List Value) (wx : World) : Prop where
  box : wx.ownsRow w.heap.size 41 7 (.slice (some ⟨w.heap.size, 0, none⟩) 1 1) 1 us
  res : Bx wx (w.heap.size + 1) zeroM
  bel : Below w.heap.size w wx
theorem Cpy.below {w wx wy : World} {us : List Value} (h : Cpy w us wx) (hb : Below (w.heap.size + 2) wx wy) : Cpy w us wy :=
  ⟨own_keep h.box (fun q hq => hb.block q (by have h9 : w.heap.size = q := by injection hq
                                              omega)), h.res.below hb (by omega), h.bel.trans (hb.mono (by omega))⟩
theorem Cpy.set {w wx : World} {i : Nat} {us : List Value} (h : Cpy w us wx) (hi : i < 7) (u : Value) : Cpy w (us.set i u) (wx.setCell ⟨w.heap.size, i, none⟩ u) :=
  ⟨own_setx u h.box (by omega), h.res.far (by omega) _ _, h.bel.setCell (Nat.le_refl _) _⟩
theorem Cpy.size {w wx : World} {us : List Value} (h : Cpy w us wx) : w.heap.size + 2 ≤ wx.heap.size := h.res.2.2
theorem keep_box {w : World} {g i : Nat} {u : Value} : ∀ q, g + 2 ≤ q → (w.setCell ⟨g, i, none⟩ u).heap[q]? = w.heap[q]? := fun q hq => Below.heap_setCell _ _ _ _ (by show q ≠ g; omega)
theorem own_box {w : World} {B E sz n g i : Nat} {v u : Value} {xs : List Value} (h : w.ownsRow B E sz v n xs) (hB : g + 2 ≤ B) : (w.setCell ⟨g, i, none⟩ u).ownsRow B E sz v n xs := own_keep h (fun q hq => keep_box q (by have := (World.ownsRow.lt h q hq).1; omega))
theorem own_up {w w' : World} {B E sz n b : Nat} {v : Value} {xs : List Value} (h : w.ownsRow B E sz v n xs) (hu : ∀ q, v.ownBlock = some q → q < b) (hb : Below b w w') : w'.ownsRow B E sz v n xs := own_keep h (fun q hq => hb.block q (hu q hq))
theorem Lists.up {w w' : World} {B b : Nat} {v : Value} {l : List (List Int)} {T : Nat → Spot} (h : Lists w B v l T) (hu : ∀ j q, (T j).v.ownBlock = some q → q < b) (hb : Below b w w') : Lists w' B v l T := ⟨h.sp.keep fun j g hg => hb.block g (hu j g hg), h.hd, h.ls⟩
theorem Lists.slice {w : World} {B : Nat} {v : Value} {l : List (List Int)} {T : Nat → Spot} (h : Lists w B v l T) : ∃ A c, v = .slice A l.length c := by
  obtain ⟨xs, e, -⟩ := h.hd
  have h9 := h.sp.own 0
  rw [e] at h9
  obtain ⟨A, c, h, -⟩ := (OwC.of_own h9).cells
  exact ⟨A, c, h⟩
theorem row_A {w : World} {B E sz n : Nat} {v : Value} {xs : List Value} (h : w.ownsRow B E sz v n xs) : ∃ A c, v = .slice A n c := by
  obtain ⟨A, c, h, -⟩ := (OwC.of_own h).cells
  exact ⟨A, c, h⟩
/-- The rows that stand already while the loops' parents are copied. -/
structure CpR (w : World) (m : Mc) (a2 a3 a4 : Nat) (vF vB vC : Value) (TF TB : Nat → Spot) (wx : World) : Prop where
  f : Lists wx (w.heap.size + 2) vF m.fr TF
  uf : ∀ j q, (TF j).v.ownBlock = some q → q < a2
  b : Lists wx a2 vB m.bk TB
  ub : ∀ j q, (TB j).v.ownBlock = some q → q < a3
  c : wx.ownsRow a3 74 2 vC m.cs.length (vS Car.cells m.cs)
  uc : ∀ q, vC.ownBlock = some q → q < a4
  l2 : w.heap.size + 2 ≤ a2
  l3 : a2 ≤ a3
  l4 : a3 ≤ a4
theorem CpR.up {w wx wy : World} {m : Mc} {a2 a3 a4 : Nat} {vF vB vC : Value} {TF TB : Nat → Spot} (h : CpR w m a2 a3 a4 vF vB vC TF TB wx) (hb : Below a4 wx wy) : CpR w m a2 a3 a4 vF vB vC TF TB wy :=
  ⟨h.f.up (b := a4) (fun j q hq => by have := h.uf j q hq; have := h.l3; have := h.l4; omega) hb, h.uf, h.b.up (b := a4) (fun j q hq => by have := h.ub j q hq; have := h.l4; omega) hb, h.ub, own_up h.c h.uc hb, h.uc, h.l2, h.l3, h.l4⟩
theorem CpR.box {w wx : World} {m : Mc} {a2 a3 a4 i : Nat} {u vF vB vC : Value} {TF TB : Nat → Spot} (h : CpR w m a2 a3 a4 vF vB vC TF TB wx) : CpR w m a2 a3 a4 vF vB vC TF TB (wx.setCell ⟨w.heap.size, i, none⟩ u) :=
  ⟨h.f.keep (fun q hq _ => keep_box q hq), h.uf, h.b.keep (fun q hq _ => keep_box q (by have := h.l2; omega)), h.ub, own_box h.c (by have := h.l2; have := h.l3; omega), h.uc, h.l2, h.l3, h.l4⟩
/-- Half of the parents' rows are copied. -/
structure CpP (w wx : World) (a : Nat) (v : Value) (l : List Inf) (k : Nat) (T : Nat → Spot) (xs : List Value) : Prop where
  sp : SpotsT wx a T
  hd : T 0 = ⟨76, 6, v, l.length, xs⟩
  el : ∀ j x, l[j]? = some x → ∃ s, (∀ q u, [Value.int .i64 x.k, .int .i64 x.y, .int .i64 x.b, .int .i64 x.p, .int .i64 x.d, s][q]? = some u → xs[j * 6 + q]? = some u) ∧ (j < k → s = (T (j + 1)).v) ∧ (k ≤ j → RdI w w.heap.size s x.ps ∧ ∃ A c, s = .slice A x.ps.length c)
  ls : ∀ j x, j < k → l[j]? = some x → T (j + 1) = spI (T (j + 1)).v x.ps

end Go.Proofs.Ytolcgopfbbmjgaa

/-
  The reference's words for taking back: the needle that faces, loops off the needles, what lies behind.
-/
namespace Go.Proofs.Ytolcgopfbbmjgaa
set_option linter.unusedVariables false
set_option linter.unusedSimpArgs false
open Go.RowKit


end Go.Proofs.Ytolcgopfbbmjgaa

/-
  The reference's l12Off: loops that are neither on needles nor dropped.
-/
namespace Go.Proofs.Ytolcgopfbbmjgaa
set_option linter.unusedVariables false
set_option linter.unusedSimpArgs false
open Go.RowKit

theorem off_yes {m : Mc} {l : List Int} {k : Nat} {y : Int} {R : Bool} (h : R = offB m (l.drop k)) (hy : l[k]? = some y) (h1 : (liveL m).contains y = false) (h2 : m.dr.contains y = false) : R = offB m (l.drop (k + 1)) := by
  rw [h, drop_of_get hy]
  unfold offB
  rw [List.all_cons, h1, h2]
  rfl
theorem off_no {m : Mc} {l : List Int} {k : Nat} {y : Int} {R : Bool} (h : R = offB m (l.drop k)) (hy : l[k]? = some y) (h1 : (liveL m).contains y = true ∨ m.dr.contains y = true) : R = false := by
  rw [h, drop_of_get hy]
  unfold offB
  rw [List.all_cons]
  rcases h1 with h1 | h1 <;> rw [h1] <;> simp

end Go.Proofs.Ytolcgopfbbmjgaa

/-
  The reference's l12Back: what lies on the needle that faces, without what a split has put there.
-/
namespace Go.Proofs.Ytolcgopfbbmjgaa
set_option linter.unusedVariables false
set_option linter.unusedSimpArgs false
open Go.RowKit

/- as equalS, at slices of int64 -/
set_option maxHeartbeats 1000000 in
set_option maxRecDepth 100000 in
theorem specSame_any (v u : Value) (l m : List Int) (w : World) (B : Nat) (hl : RdI w B v l) (hm : RdI w B u m) (hB : B ≤ w.heap.size) :
    Calls Try.prog 34 #[v, u] w fun x w' => x = .returned (.bool (decide (l = m))) ∧ Below w.heap.size w w' := by
  obtain ⟨A, n, c, rfl, hln, hl, gl⟩ := hl
  obtain ⟨A', n', c', rfl, hmn, hm, gm⟩ := hm
  by_cases hlen : n = n'
  · subst hlen
    go_enter Try.func34, Try.ntmps34
    go_wp2
    go_loopw [5] (fun  i wr => ∃ k : Nat, k ≤ n ∧ i = .int .i64 k ∧ Hid (decide (l = m) = decide (l.drop k = m.drop k)) ∧ Below w.heap.size w wr) (fun  i _ => n - (intOf i).toNat)
    case atStart => exact ⟨0, Nat.zero_le _, rfl, rfl, Below.refl _ _⟩
    case round =>
      rename_i wr
      obtain ⟨k, hk, rfl, hd, hb⟩ := hrel
      by_cases hlt : k < n
      · obtain ⟨b, off, x, rfl, hbb, hlk, hc⟩ := gl k hlt
        obtain ⟨b', off', y, rfl, hbb', hmk, hc'⟩ := gm k hlt
        have e0 := fun X => wgrow_cell (x := X) ((hb.cell (p := ⟨b, off + k, none⟩) (Nat.lt_of_lt_of_le hbb hB)).trans hc)
        have e1 := fun X => wgrow_cell (x := X) ((hb.cell (p := ⟨b', off' + k, none⟩) (Nat.lt_of_lt_of_le hbb' hB)).trans hc')
        have HB := Lib.hid hb
        have Hl := Lib.hid hlk
        have Hm := Lib.hid hmk
        clear hc hc' hlk hmk hb gl gm
        go_wp2
        refine wp_region_grow (by kernel_rfl) (by kernel_rfl) ?_
        repeat (go_big_quiet_step (fail))
        refine wpQuiet_nil ?_
        intro w1 hb1
        have HB1 := HB.out.trans (hb1.mono HB.out.size)
        go_wp2
        · go_ret
          exact ⟨ret_bool (by rw [hd.out, drop_of_get Hl.out, drop_of_get Hm.out]; simp_all), HB1⟩
        · exact ⟨⟨k + 1, by omega, by go_num, by unfold Hid; rw [hd.out, drop_of_get Hl.out, drop_of_get Hm.out]; simp_all, HB1⟩, by simp [intOf]; omega⟩
      · go_wp2
        go_ret
        exact ⟨ret_bool (by rw [hd.out, List.drop_of_length_le (by have := hl.out; omega), List.drop_of_length_le (by have := hm.out; omega)]; simp), hb⟩
  · have hd1 : ((n : Int) != (n' : Int)) = true := by simp; omega
    go_enter Try.func34, Try.ntmps34
    go_wp2
    go_ret
    exact ⟨ret_bool (by symm; simp; rintro rfl; exact hlen (hl.out.symm.trans hm.out)), Below.refl _ _⟩
theorem RdI.drop {w : World} {B : Nat} {b off n c : Nat} {l : List Int} (h : RdI w B (.slice (some ⟨b, off, none⟩) n c) l) {k : Nat} (hk : k ≤ n) (c' : Nat) : RdI w B (.slice (some ⟨b, off + k, none⟩) (n - k) c') (l.drop k) := by
  obtain ⟨A', n', c1, e, hn, hl, h⟩ := h
  injection e with e1 e2 e3
  subst e1 e2 e3
  refine ⟨_, n - k, c', rfl, by omega, by unfold Hid; have := hl.out; simp; omega, fun j hj => ?_⟩
  obtain ⟨b1, off1, x, h1, h2, h3, h4⟩ := h (k + j) (by omega)
  injection h1 with h1
  injection h1 with q1 q2
  subst q1 q2
  exact ⟨b, off + k, x, rfl, h2, by rw [List.getElem?_drop]; exact h3, by rw [Nat.add_assoc]; exact h4⟩
/-- A slice from a place on: at the end of the capacity it points to the row's start. -/
theorem RdI.dropC {w : World} {B b n c : Nat} {l : List Int} (h : RdI w B (.slice (some ⟨b, 0, none⟩) n c) l) {k : Nat} (hk : k ≤ n) (hc : n ≤ c) : RdI w B (.slice (if c = k then some ⟨b, 0, none⟩ else some ⟨b, k, none⟩) (n - k) (c - k)) (l.drop k) := by
  by_cases e : c = k
  · rw [if_pos e]
    have hln := h.reads.2
    refine ⟨_, n - k, c - k, rfl, by omega, by unfold Hid; simp; omega, fun j hj => by omega⟩
  · rw [if_neg e]
    have h9 := RdI.drop h hk (c - k)
    rwa [Nat.zero_add] at h9
def BackV (w : World) (m : Mc) (n : Int × Int) (ps : List Int) (e : Ending) (w' : World) : Prop := ∃ u, e = .returned (.tuple #[u, .bool (holdB m n ps)]) ∧ (holdB m n ps = true → w'.ownsRow w.heap.size 2 1 u (ukRest m n ps).length (vI (ukRest m n ps))) ∧ Below w.heap.size w w'

end Go.Proofs.Ytolcgopfbbmjgaa

/-
  The reference's SameMachine at two readings of one machine.
-/
namespace Go.Proofs.Ytolcgopfbbmjgaa
set_option linter.unusedVariables false
set_option linter.unusedSimpArgs false
open Go.RowKit Go.Op

theorem eqlIn_ca (d : Nat) (x : Car) (W : World) : (Op.equalIn (d + 2) 74 (.agg #[.bool x.i, .int .i64 x.p]) (.agg #[.bool x.i, .int .i64 x.p])).run Try.prog W = .ok true W := by
  rw [run_equalIn_struct (P := Try.prog) W (d + 1) 74 _ _ (by kernel_rfl) (by kernel_rfl)]
  have hf : (Try.prog.fieldsOf 74).toList = [⟨ "In", 4, 0, false, "", "", 0⟩, ⟨ "At", 2, 1, false, "", "", 8⟩] := by kernel_rfl
  rw [hf]
  obtain ⟨i, p⟩ := x
  simp [go_sem, Op.eqFields]
theorem neq_ca (x : Car) (W : World) : (binOp .neq 74 (.agg #[.bool x.i, .int .i64 x.p]) (.agg #[.bool x.i, .int .i64 x.p])).run Try.prog W = .ok (.bool false) W := by
  rw [run_neq_struct, eqlIn_ca 9998]
  rfl
theorem l00Same_true (v u : Value) (l : List Int) (w : World) (hl : RdI w w.heap.size v l) (hm : RdI w w.heap.size u l) : Calls Try.prog 34 #[v, u] w fun e w' => e = .returned (.bool true) ∧ Below w.heap.size w w' :=
  (specSame_any v u l l w _ hl hm (Nat.le_refl _)).mono fun e w' ⟨h1, h2⟩ => ⟨by rw [h1]; simp, h2⟩
/- two slices whose elements hold slices, alike: sameLL theorem · spec.l07Same function · List (List Int) the datum's type · RdLL its reading · obtain ⟨b, off, x, s, rfl, hbb, hlk, hc, hs⟩ := (RdLL.below HL.out hb).at_ hlt, obtain ⟨b', off', x', t, rfl, hbb', hlk', hc', ht⟩ := (RdLL.below HM.out hb).at_ hlt the elements taken · have e0 := fun X => wgrow_cell (x := X) hc; have f0 := fun X => wgrow_cell (x := X) hc' their cells in grown worlds · spec.l00Same the element's comparison · (l00Same_true _ _ x _ (HS _).out (HT _).out) its contract -/
set_option maxHeartbeats 2000000 in
set_option maxRecDepth 100000 in
theorem sameLL_same (v u : Value) (l : List (List Int)) (w : World) (hl : RdLL w w.heap.size v l) (hm : RdLL w w.heap.size u l) :
    Calls Try.prog 33 #[v, u] w fun x w' => x = .returned (.bool true) ∧ Below w.heap.size w w' := by
  obtain ⟨A, cp, rfl⟩ := RdN.shape hl
  obtain ⟨A', cp', rfl⟩ := RdN.shape hm
  have hbig := RdN.le hl
  have HL := Lib.hid hl
  have HM := Lib.hid hm
  clear hl hm
  generalize hln : l.length = n at *
  go_enter Try.func33, Try.ntmps33
  go_wp2
  go_loopw [5] (fun i wr => ∃ k : Nat, k ≤ n ∧ i = .int .i64 k ∧ Below w.heap.size w wr) (fun i _ => n - (intOf i).toNat)
  case atStart => exact ⟨0, Nat.zero_le _, rfl, Below.refl _ _⟩
  case round =>
    rename_i wr
    obtain ⟨k, hk, rfl, hb⟩ := hrel
    by_cases hlt : k < n
    · obtain ⟨b, off, x, s, rfl, hbb, hlk, hc, hs⟩ := (RdLL.below HL.out hb).at_ hlt
      obtain ⟨b', off', x', t, rfl, hbb', hlk', hc', ht⟩ := (RdLL.below HM.out hb).at_ hlt
      obtain rfl : x = x' := by rw [hlk] at hlk'; injection hlk'
      obtain ⟨A1, n1, c1, rfl⟩ := RdI.shape' hs
      obtain ⟨A2, n2, c2, rfl⟩ := RdI.shape' ht
      have hs1 := hs.more hb.size
      have ht1 := ht.more hb.size
      have HS := fun X => Lib.hid (hs1.up' (below_wgrow wr X) (below_wgrow wr X).size)
      have HT := fun X => Lib.hid (ht1.up' (below_wgrow wr X) (below_wgrow wr X).size)
      have e0 := fun X => wgrow_cell (x := X) hc; have f0 := fun X => wgrow_cell (x := X) hc'
      have HB := Lib.hid hb
      clear hc hc' hlk hlk' hb hs ht hs1 ht1
      go_wp2
      refine wp_region_grow (by kernel_rfl) (by kernel_rfl) ?_
      repeat (go_big_quiet_step ((go_at_call 34; exact calls_grow (l00Same_true _ _ x _ (HS _).out (HT _).out))))
      refine wpQuiet_nil ?_
      intro w1 hb1
      have HB1 := HB.out.trans (hb1.mono HB.out.size)
      go_wp2
      exact ⟨⟨k + 1, by omega, by go_num, HB1⟩, by simp [intOf]; omega⟩
    · go_wp2
      go_ret
      exact ⟨rfl, hb⟩

set_option maxHeartbeats 8000000 in
set_option maxRecDepth 100000 in
theorem sameMachine_same (v u : Value) (m : Mc) (w : World) (hl : RdM w w.heap.size v m) (hm : RdM w w.heap.size u m) :
    Calls Try.prog 16 #[v, u] w fun x w' => x = .returned (.bool true) ∧ Below w.heap.size w w' := by
  obtain ⟨f, b, cs, ls, d, rfl, h1, h2, h3, h4, h5, h6⟩ := hl
  obtain ⟨AF, cF, rfl⟩ := RdN.shape h1
  obtain ⟨AG, cG, rfl⟩ := RdN.shape h2
  obtain ⟨AC, cC, rfl⟩ := RdS.lens h3
  obtain ⟨AI, cI, rfl⟩ := RdN.shape h4
  obtain ⟨AD, cD, rfl⟩ := RdI.len h5
  have HF := Lib.hid h1
  have HG := Lib.hid h2
  have HC := Lib.hid h3
  have HI := Lib.hid h4
  have HD := Lib.hid h5
  have hbC := h3.reads Car.len
  have hln : m.cs.length ≤ 9223372036854775807 := by obtain ⟨A, n, c, e, hn, hl, _⟩ := h3; rw [hl.out]; exact hn
  have hll : m.ls.length ≤ 9223372036854775807 := RdN.le h4
  clear h1 h2 h3 h4 h5 h6 hbC
  obtain ⟨f, b, cs, ls, d, rfl, h1, h2, h3, h4, h5, h6⟩ := hm
  obtain ⟨BF, dF, rfl⟩ := RdN.shape h1
  obtain ⟨BG, dG, rfl⟩ := RdN.shape h2
  obtain ⟨BC, dC, rfl⟩ := RdS.lens h3
  obtain ⟨BI, dI, rfl⟩ := RdN.shape h4
  obtain ⟨BD, dD, rfl⟩ := RdI.len h5
  have JF := Lib.hid h1
  have JG := Lib.hid h2
  have JC := Lib.hid h3
  have JI := Lib.hid h4
  have JD := Lib.hid h5
  clear h1 h2 h3 h4 h5 h6
  have hx0 := (Bx.new w [.int .i64 m.wd, .int .i64 m.rk, .slice AF m.fr.length cF, .slice AG m.bk.length cG, .slice AC m.cs.length cC, .slice AI m.ls.length cI, .slice AD m.dr.length cD] 41).alloc (.cells [.int .i64 m.wd, .int .i64 m.rk, .slice BF m.fr.length dF, .slice BG m.bk.length dG, .slice BC m.cs.length dC, .slice BI m.ls.length dI, .slice BD m.dr.length dD].toArray 41)
  have hy0 := Bx.new (w.alloc (.cells [.int .i64 m.wd, .int .i64 m.rk, .slice AF m.fr.length cF, .slice AG m.bk.length cG, .slice AC m.cs.length cC, .slice AI m.ls.length cI, .slice AD m.dr.length cD].toArray 41)) [.int .i64 m.wd, .int .i64 m.rk, .slice BF m.fr.length dF, .slice BG m.bk.length dG, .slice BC m.cs.length dC, .slice BI m.ls.length dI, .slice BD m.dr.length dD] 41
  rw [World.size_alloc] at hy0
  have HX := Lib.hid hx0
  have HY := Lib.hid hy0
  have BW := Lib.hid (((Below.refl w.heap.size w).alloc (Nat.le_refl _) (.cells [.int .i64 m.wd, .int .i64 m.rk, .slice AF m.fr.length cF, .slice AG m.bk.length cG, .slice AC m.cs.length cC, .slice AI m.ls.length cI, .slice AD m.dr.length cD].toArray 41)).alloc (by simp) (.cells [.int .i64 m.wd, .int .i64 m.rk, .slice BF m.fr.length dF, .slice BG m.bk.length dG, .slice BC m.cs.length dC, .slice BI m.ls.length dI, .slice BD m.dr.length dD].toArray 41))
  clear hx0 hy0
  have n1 : (m.wd != m.wd) = false := by simp
  have n2 : (m.rk != m.rk) = false := by simp
  have n3 : ((m.cs.length : Int) != (m.cs.length : Int)) = false := by simp
  have n4 : ((m.ls.length : Int) != (m.ls.length : Int)) = false := by simp
  go_enter Try.func16, Try.ntmps16
  go_wp2_with fail
  generalize (w.alloc (.cells #[.int .i64 m.wd, .int .i64 m.rk, .slice AF m.fr.length cF, .slice AG m.bk.length cG, .slice AC m.cs.length cC, .slice AI m.ls.length cI, .slice AD m.dr.length cD] 41)).alloc (.cells #[.int .i64 m.wd, .int .i64 m.rk, .slice BF m.fr.length dF, .slice BG m.bk.length dG, .slice BC m.cs.length dC, .slice BI m.ls.length dI, .slice BD m.dr.length dD] 41) = W0 at *
  have hbx : w.heap.size < W0.heap.size := HX.out.2.2
  refine (sameLL_same _ _ m.fr _ (RdLL.up HF.out BW.out BW.out.size) (RdLL.up JF.out BW.out BW.out.size)).mono ?_
  rintro e w1 ⟨rfl, hb⟩
  have B1 := Lib.hid (BW.out.trans (hb.mono BW.out.size))
  have C1 := Lib.hid hb
  clear hb
  obtain ⟨x0, x1, x2, x3, x4, x5, x6⟩ := CellsAt.seven (HX.out.below C1.out hbx).1
  obtain ⟨y0, y1, y2, y3, y4, y5, y6⟩ := CellsAt.seven (HY.out.below C1.out HY.out.2.2).1
  go_wp2_with fail
  clear x0 x1 x2 x3 x4 x5 x6 y0 y1 y2 y3 y4 y5 y6
  refine (sameLL_same _ _ m.bk _ (RdLL.up HG.out B1.out B1.out.size) (RdLL.up JG.out B1.out B1.out.size)).mono ?_
  rintro e w2 ⟨rfl, hb⟩
  have B2 := Lib.hid (B1.out.trans (hb.mono B1.out.size))
  have C2 := Lib.hid (C1.out.trans (hb.mono C1.out.size))
  clear hb
  obtain ⟨x0, x1, x2, x3, x4, x5, x6⟩ := CellsAt.seven (HX.out.below C2.out hbx).1
  obtain ⟨y0, y1, y2, y3, y4, y5, y6⟩ := CellsAt.seven (HY.out.below C2.out HY.out.2.2).1
  go_wp2_with fail
  clear x0 x1 x2 x3 x4 x5 x6 y0 y1 y2 y3 y4 y5 y6
  refine (l00Same_true _ _ m.dr _ (RdI.up' HD.out B2.out B2.out.size) (RdI.up' JD.out B2.out B2.out.size)).mono ?_
  rintro e w3 ⟨rfl, hb⟩
  have B3 := Lib.hid (B2.out.trans (hb.mono B2.out.size))
  have C3 := Lib.hid (C2.out.trans (hb.mono C2.out.size))
  clear hb
  go_wp2
  go_loopw [5] (fun i wr => ∃ (k : Nat) (wq : World), wq = wr ∧ k ≤ m.cs.length ∧ i = .int .i64 k ∧ Hid (Below W0.heap.size W0 wq)) (fun i _ => m.cs.length - (intOf i).toNat)
  case atStart => exact ⟨0, _, rfl, Nat.zero_le _, rfl, C3.out⟩
  case round =>
    obtain ⟨k, wq, hwq, hk, rfl, HBq⟩ := hrel
    subst hwq
    have HBW := Lib.hid (BW.out.trans (HBq.out.mono BW.out.size))
    obtain ⟨x0, x1, x2, x3, x4, x5, x6⟩ := CellsAt.seven (HX.out.below HBq.out hbx).1
    obtain ⟨y0, y1, y2, y3, y4, y5, y6⟩ := CellsAt.seven (HY.out.below HBq.out HY.out.2.2).1
    by_cases hlt : k < m.cs.length
    · obtain ⟨b, off, x, rfl, hbb, hlk, hc⟩ := (RdCs.up HC.out HBW.out HBW.out.size).at_ hlt
      obtain ⟨b', off', x', rfl, hbb', hlk', hc'⟩ := (RdCs.up JC.out HBW.out HBW.out.size).at_ hlt
      obtain rfl : x = x' := by rw [hlk] at hlk'; injection hlk'
      obtain ⟨e0, e1⟩ := CellsAt.grow2 hc
      obtain ⟨f0, f1⟩ := CellsAt.grow2 hc'
      have g4 := fun X => wgrow_cell (x := X) x4
      have h4 := fun X => wgrow_cell (x := X) y4
      have hki : (k : Int) < (m.cs.length : Int) := by omega
      have hne := neq_ca x
      clear hlk hlk' hc hc' hbb hbb'
      go_wp2
      clear x0 x1 x2 x3 x4 x5 x6 y0 y1 y2 y3 y4 y5 y6
      refine wp_region_grow (by kernel_rfl) (by kernel_rfl) ?_
      repeat (go_big_quiet_step (fail))
      refine wpQuiet_nil ?_
      intro w4 hb4
      have HB4 := Lib.hid (HBq.out.trans (hb4.mono HBq.out.size))
      clear hb4 e0 e1 f0 f1 g4 h4 hne
      go_wp2
      exact ⟨⟨k + 1, _, rfl, by omega, by go_num, HB4.out⟩, by simp [intOf]; omega⟩
    · have hkn : k = m.cs.length := by omega
      go_wp2
      clear x0 x1 x2 x3 x4 x5 x6 y0 y1 y2 y3 y4 y5 y6
      go_loopw [6] (fun i wr => ∃ (k : Nat) (wq : World), wq = wr ∧ k ≤ m.ls.length ∧ i = .int .i64 k ∧ Hid (Below W0.heap.size W0 wq)) (fun i _ => m.ls.length - (intOf i).toNat)
      case atStart => exact ⟨0, _, rfl, Nat.zero_le _, rfl, HBq.out⟩
      case round =>
        clear HBq HBW hlt hkn hk
        obtain ⟨k2, wq2, hwq, hk, rfl, HBq⟩ := hrel
        subst hwq
        have HBW := Lib.hid (BW.out.trans (HBq.out.mono BW.out.size))
        obtain ⟨x0, x1, x2, x3, x4, x5, x6⟩ := CellsAt.seven (HX.out.below HBq.out hbx).1
        obtain ⟨y0, y1, y2, y3, y4, y5, y6⟩ := CellsAt.seven (HY.out.below HBq.out HY.out.2.2).1
        by_cases hlt : k2 < m.ls.length
        · obtain ⟨b, off, x, A1, c1, rfl, hbb, hlk, hc, hs, -⟩ := (RdIs.up HI.out HBW.out HBW.out.size).at_cap hlt
          obtain ⟨b', off', x', A2, c2, rfl, hbb', hlk', hc', ht, -⟩ := (RdIs.up JI.out HBW.out HBW.out.size).at_cap hlt
          obtain rfl : x = x' := by rw [hlk] at hlk'; injection hlk'
          have hki : (k2 : Int) < (m.ls.length : Int) := by omega
          obtain ⟨e0, e1, e2, e3, e4, e5⟩ := CellsAt.six hc
          have hal := (Below.refl wq2.heap.size wq2).alloc (Nat.le_refl _) (.cells #[.int .i64 x.k, .int .i64 x.y, .int .i64 x.b, .int .i64 x.p, .int .i64 x.d, .slice A1 x.ps.length c1] 76)
          obtain ⟨f0, f1, f2, f3, f4, f5⟩ := CellsAt.six (hc'.below hal hbb')
          have z5 := (HY.out.below (HBq.out.trans (hal.mono HBq.out.size)) HY.out.2.2).1 5 _ rfl
          rw [Nat.zero_add] at z5
          have hal2 := hal.alloc hal.size (.cells #[.int .i64 x.k, .int .i64 x.y, .int .i64 x.b, .int .i64 x.p, .int .i64 x.d, .slice A2 x.ps.length c2] 76)
          have HQ := Lib.hid (l00Same_true _ _ x.ps _ (hs.up' hal2 hal2.size) (ht.up' hal2 hal2.size))
          have HB2 := Lib.hid (HBq.out.trans (hal2.mono HBq.out.size))
          have m1 : (x.k != x.k) = false := by simp
          have m2 : (x.y != x.y) = false := by simp
          have m3 : (x.b != x.b) = false := by simp
          have m4 : (x.p != x.p) = false := by simp
          have m5 : (x.d != x.d) = false := by simp
          clear hlk hlk' hc hc' hs ht hal hal2 hbb hbb'
          go_wp2_with fail
          refine (HQ.out).mono ?_
          rintro e w5 ⟨rfl, hb5⟩
          have HB5 := Lib.hid (HB2.out.trans (hb5.mono HB2.out.size))
          clear hb5 HQ e0 e1 e2 e3 e4 e5 f0 f1 f2 f3 f4 f5 z5 x0 x1 x2 x3 x4 x5 x6 y0 y1 y2 y3 y4 y5 y6
          go_wp2
          exact ⟨⟨k2 + 1, _, rfl, by omega, by go_num, HB5.out⟩, by simp [intOf]; omega⟩
        · go_wp2
          go_ret
          exact ⟨rfl, HBW.out⟩

end Go.Proofs.Ytolcgopfbbmjgaa

/-
  The form of a machine that is read by value.
-/
namespace Go.Proofs.Ytolcgopfbbmjgaa
set_option linter.unusedVariables false
set_option linter.unusedSimpArgs false
open Go.RowKit

theorem RdM.shape {w : World} {B : Nat} {v : Value} {m : Mc} (h : RdM w B v m) : ∃ AF cF AG cG AC cC AI cI AD cD, v = .agg #[.int .i64 m.wd, .int .i64 m.rk, .slice AF m.fr.length cF, .slice AG m.bk.length cG, .slice AC m.cs.length cC, .slice AI m.ls.length cI, .slice AD m.dr.length cD] := by
  obtain ⟨f, b, cs, ls, d, rfl, h1, h2, h3, h4, h5, h6⟩ := h
  obtain ⟨AF, cF, rfl⟩ := RdN.shape h1
  obtain ⟨AG, cG, rfl⟩ := RdN.shape h2
  obtain ⟨AC, cC, rfl⟩ := RdS.lens h3
  obtain ⟨AI, cI, rfl⟩ := RdN.shape h4
  obtain ⟨AD, cD, rfl⟩ := RdI.len h5
  exact ⟨_, _, _, _, _, _, _, _, _, _, rfl⟩

end Go.Proofs.Ytolcgopfbbmjgaa

/-
  A slice of bytes that came in; the bound on its length.
-/
namespace Go.Proofs.Ytolcgopfbbmjgaa
set_option linter.unusedVariables false
set_option linter.unusedSimpArgs false
open Go.ChangeShapes Go.WideShapes Go.ChangeAt Go.RowKit Go.Deep

theorem byte_of_wf {x : Int} (h : (Lit.int .u8 x).wf = true) : 0 ≤ x ∧ x ≤ 255 := by
  simp [Lit.wf, IntKind.min, IntKind.max, IntKind.signed, IntKind.bits] at h
  exact ⟨by omega, by omega⟩
section
variable {H : Type} {enc : TypeId × Value → H} {P : Program} {W : World} {base : Nat} {d : DataW H} {p : List MemPlace} {v : Value}
theorem open_rdB {t e : TypeId} (ht : P.underlying t = some (.slice e)) (he : P.underlying e = some (.int .u8)) (hc : P.cellsOf e = 1) (ho : Value.okWide P W .any base t v)
    (h : DataW.Trod enc P W 0 (fun _ => true) true t v d p) : RdB W W.heap.size v := by
  obtain ⟨A, n, c, rfl⟩ := okWide_slice ht ho
  obtain ⟨fuel, hf⟩ := h
  rcases open_ints ht he hc hf with ⟨hcs, _⟩ | ⟨a, l', c', zs, hcs, _, hl, hm, hz, _, hcell, hwz⟩
  · simp [Value.cells] at hcs
    obtain ⟨rfl, rfl, rfl⟩ := hcs
    exact ⟨none, 0, 0, rfl, by omega, fun k hk => absurd hk (by omega)⟩
  · simp [Value.cells] at hcs
    obtain ⟨rfl, rfl, rfl⟩ := hcs
    simp only [if_true] at hz
    refine ⟨some a, n, c, rfl, by unfold maxLen at hm; omega, fun k hk => ?_⟩
    obtain ⟨h1, h2, h3⟩ := addr_of_cell (hcell k (by omega)) ⟨_, hcell 0 (by omega)⟩
    have hb : 0 ≤ zs.getD k 0 ∧ zs.getD k 0 ≤ 255 := by
      rw [List.getD_eq_getElem?_getD]
      cases hx : zs[k]? with
      | none => simp
      | some x => exact byte_of_wf (hwz x (List.mem_of_getElem? hx))
    exact ⟨a.block, a.off, zs.getD k 0, by rw [← h1], h2, hb.1, hb.2, h3⟩
end

end Go.Proofs.Ytolcgopfbbmjgaa
