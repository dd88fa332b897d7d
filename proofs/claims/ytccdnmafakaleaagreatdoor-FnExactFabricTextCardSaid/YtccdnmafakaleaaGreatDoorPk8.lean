/-
  Texts joined: BlkE, BlkF, Bks3.
-/
import Derived.Test.YtccdnmafakaleaaGreatDoorPk2
import Derived.Test.YtccdnmafakaleaaGreatDoorL10e
import Derived.Test.YtccdnmafakaleaaGreatDoorStrands
import Derived.Test.YtccdnmafakaleaaGreatDoorAppend
import Derived.Test.YtccdnmafakaleaaGreatDoorPk7
/-
  EventsOfBlocks: which lists of blocks are valid.
-/
namespace Go.Proofs.YtccdnmafakaleaaGreatDoor
set_option linter.unusedVariables false
set_option linter.unusedSimpArgs false
open Go.RowKit

/-- One block of a row, with its lengths. -/
theorem RdBks.at2 {w : World} {B : Nat} {A : Option Addr} {n c : Nat} {l : List Bk} (h : RdBks w B (.slice A n c) l) {k : Nat} (hk : k < n) :
    ∃ b off x A0 c0 A1 c1, A = some ⟨b, off, none⟩ ∧ b < B ∧ l[k]? = some x ∧ CellsAt w b (off + k * 3) [.int .i64 x.b.n, .slice A0 x.b.w.length c0, .slice A1 x.e.length c1] ∧ RdI w B (.slice A0 x.b.w.length c0) x.b.w ∧ RdE w B (.slice A1 x.e.length c1) x.e := by
  obtain ⟨b, off, x, A0, n0, c0, A1, n1, c1, h1, h2, h3, h4, h5, h6⟩ := h.at_ hk
  obtain ⟨A2, c2, e2⟩ := h5.len
  obtain ⟨A3, c3, e3⟩ := RdS.lens h6
  injection e2 with a1 a2 a3
  injection e3 with b1 b2 b3
  subst a1 a2 a3 b1 b2 b3
  exact ⟨b, off, x, _, _, _, _, h1, h2, h3, h4, h5, h6⟩

def crossK (e : Ev) : Bool := e.k == 1
def okOne (n : Int) (x : Bk) : Bool := okBr x.b && (decide (x.b.n = n) && (decide (x.e.length ≤ 2000) && !(x.e.any crossK)))
def nextBk (n : Int) (x : Bk) : Option Int := if okOne n x = true then cntE n x.e else none
def blksGo : Int → List Bk → Bool
  | _, [] => true
  | n, x :: xs => match nextBk n x with
    | some m => blksGo m xs
    | none => false
def okBks (l : List Bk) : Bool := decide (l.length ≤ 60) && blksGo 0 l
def stGo : Int → List Ev → Option Int
  | n, [] => some n
  | n, e :: es => if valE n e = true ∧ crossK e = false ∧ aftE n e ≤ 12 then stGo (aftE n e) es else none
theorem stGo_eq : ∀ (l : List Ev) (n : Int), stGo n l = if l.any crossK = true then none else cntE n l
  | [], n => by simp [stGo, cntE]
  | e :: es, n => by
    rw [stGo, cntE, List.any_cons]
    cases hc : crossK e
    · by_cases hv : valE n e = true ∧ aftE n e ≤ 12
      · rw [if_pos ⟨hv.1, rfl, hv.2⟩, stGo_eq es, if_pos hv]
        simp
      · rw [if_neg (fun h => hv ⟨h.1, h.2.2⟩), if_neg hv]
        simp
    · simp
theorem cnt_bounds : ∀ (l : List Ev) (n m : Int), 0 ≤ n → n ≤ 12 → cntE n l = some m → 0 ≤ m ∧ m ≤ 12
  | [], n, m, h0, h1, h => by simp [cntE] at h; omega
  | e :: es, n, m, h0, h1, h => by
    rw [cntE] at h
    split at h
    · rename_i hv
      exact cnt_bounds es _ _ (aft_bounds h0 h1 hv.1).1 hv.2 h
    · cases h
theorem stGo_no {l : List Ev} {k : Nat} {x : Ev} {n m : Int} (h : stGo n l = stGo m (l.drop k)) (hx : l[k]? = some x) (hv : ¬ (valE m x = true ∧ crossK x = false ∧ aftE m x ≤ 12)) : stGo n l = none := by
  rw [h, drop_of_get hx, stGo, if_neg hv]
theorem stGo_yes {l : List Ev} {k : Nat} {x : Ev} {n m : Int} (h : stGo n l = stGo m (l.drop k)) (hx : l[k]? = some x) (hv : valE m x = true ∧ crossK x = false ∧ aftE m x ≤ 12) : stGo n l = stGo (aftE m x) (l.drop (k + 1)) := by
  rw [h, drop_of_get hx, stGo, if_pos hv]
theorem blks_no {R : Bool} {l : List Bk} {k : Nat} {x : Bk} {m : Int} (h : R = blksGo m (l.drop k)) (hx : l[k]? = some x) (hv : nextBk m x = none) : R = false := by
  rw [h, drop_of_get hx, blksGo, hv]
theorem blks_yes {R : Bool} {l : List Bk} {k : Nat} {x : Bk} {m m' : Int} (h : R = blksGo m (l.drop k)) (hx : l[k]? = some x) (hv : nextBk m x = some m') : R = blksGo m' (l.drop (k + 1)) := by
  rw [h, drop_of_get hx, blksGo, hv]
theorem nextBk_no {m : Int} {x : Bk} (h : okOne m x = false) : nextBk m x = none := by simp [nextBk, h]
theorem nextBk_yes {m : Int} {x : Bk} (h : okOne m x = true) : nextBk m x = cntE m x.e := by simp [nextBk, h]
theorem okOne_mk {m : Int} {x : Bk} (h1 : okBr x.b = true) (h2 : x.b.n = m) (h3 : x.e.length ≤ 2000) (h4 : x.e.any crossK = false) : okOne m x = true := by unfold okOne; rw [h1, h4]; simp [h2, h3]
theorem nextBk_st {m : Int} {x : Bk} (h1 : okBr x.b = true) (h2 : x.b.n = m) (h3 : x.e.length ≤ 2000) : nextBk m x = stGo m x.e := by
  rw [stGo_eq]
  unfold nextBk okOne
  rw [h1]
  cases x.e.any crossK <;> simp [h2, h3]




end Go.Proofs.YtccdnmafakaleaaGreatDoor

/-
  EventsOfBlocks of the program and of the reference.
-/
namespace Go.Proofs.YtccdnmafakaleaaGreatDoor
set_option linter.unusedVariables false
set_option linter.unusedSimpArgs false
open Go.RowKit

/-- The events of blocks. -/
def bkE (x : Bk) : List Ev := letsE x.b.w ++ x.e
def evsB (l : List Bk) : List Ev := l.flatMap bkE
/-- Blocks whose events can be listed. -/
structure FitEB (l : List Bk) : Prop where
  len : l.length ≤ 2100
  all : ∀ x ∈ l, Lets x.b.w ∧ x.b.w.length ≤ 40 ∧ x.e.length ≤ 2000
theorem evs_snoc {Y acc : List Ev} {l : List Bk} {k : Nat} {x : Bk} (h : Y = acc ++ evsB (l.drop k)) (hx : l[k]? = some x) : Y = (acc ++ letsE x.b.w) ++ x.e ++ evsB (l.drop (k + 1)) := by
  rw [h, drop_of_get hx]
  simp [evsB, bkE]
theorem vE_append (a b : List Ev) : vE (a ++ b) = vE a ++ vE b := by simp [vS]
theorem vE_one' (l : List Ev) : ∀ u ∈ vE l, u.oneCell' = true := by
  intro u hu
  unfold vE vS at hu
  rw [List.mem_flatMap] at hu
  obtain ⟨x, _, hx⟩ := hu
  simp at hx
  rcases hx with rfl | rfl | rfl | rfl | rfl | rfl <;> rfl
theorem letsE_len (l : List Int) : (letsE l).length = l.length := by simp [letsE]



end Go.Proofs.YtccdnmafakaleaaGreatDoor

/-
  BlocksOf and ReduceEvents, of the program and of the reference.
-/
namespace Go.Proofs.YtccdnmafakaleaaGreatDoor
set_option linter.unusedVariables false
set_option linter.unusedSimpArgs false
open Go.RowKit

noncomputable def bkoL (l : List Ev) : List Bk := if okEvs l = true then bksL l else []
noncomputable def bkoC (l : List Ev) : Int := if okEvs l = true then bksC l else 1
theorem bko_no {l : List Ev} (h : okEvs l = false) : bkoL l = [] ∧ bkoC l = 1 := by simp [bkoL, bkoC, h]
theorem bko_yes {l : List Ev} (h : okEvs l = true) : bkoL l = bksL l ∧ bkoC l = bksC l := by simp [bkoL, bkoC, h]
def GivesBo (w : World) (l : List Ev) (e : Ending) (w' : World) : Prop := ∃ v, e = .returned (.tuple #[v, .int .i64 (bkoC l)]) ∧ OwBl w' w.heap.size w'.heap.size v (bkoL l) ∧ Below w.heap.size w w'
theorem GivesBo.no {w w' : World} {l : List Ev} (h : okEvs l = false) (hb : Below w.heap.size w w') : GivesBo w l (.returned (.tuple #[.slice none 0 0, .int .i64 1])) w' := by
  obtain ⟨h1, h2⟩ := bko_no h
  refine ⟨_, by rw [h2], ?_, hb⟩
  rw [h1]
  exact OwBl.nil hb.size
theorem OwBl.wide {w : World} {lo lo' hi : Nat} {v : Value} {l : List Bk} (h : OwBl w lo hi v l) (hl : lo' ≤ lo) : OwBl w lo' hi v l := by
  obtain ⟨a, b, f, h1, h2, h3⟩ := h
  exact ⟨a, b, f, fun j hj => ⟨Nat.le_trans hl (h1 j hj).1, (h1 j hj).2⟩, h2, h3⟩
theorem OwBl.shape {w : World} {lo hi : Nat} {v : Value} {l : List Bk} (h : OwBl w lo hi v l) : ∃ A c, v = .slice A l.length c := by
  obtain ⟨a, b, f, h1, h2, h3, h4⟩ := h
  obtain ⟨A, c, e, _⟩ := h3.cells
  exact ⟨A, c, e⟩
theorem GivesBo.yes {w w1 w' : World} {l : List Ev} {e : Ending} (h : okEvs l = true) (hb : Below w.heap.size w w1) (hg : GivesBl w1 l e w') : GivesBo w l e w' := by
  obtain ⟨h1, h2⟩ := bko_yes h
  obtain ⟨v, rfl, ho, hb'⟩ := hg
  exact ⟨v, by rw [h2], by rw [h1]; exact ho.wide hb.size, hb.trans (hb'.mono hb.size)⟩

set_option maxHeartbeats 1000000 in
theorem implBlocksOf_any (v : Value) (l : List Ev) (w : World) (hl : RdE w w.heap.size v l) : Calls Tryz.prog 14 #[v] w (GivesBo w l) := by
  have HL := Lib.hid hl
  clear hl
  cases hok : okEvs l
  all_goals
    have HO := Lib.hid hok
    clear hok
    go_enter Tryz.func14, Tryz.ntmps14
    go_wp2_with fail
    refine (implValidEvents_any _ l _ _ HL.out (Nat.le_refl _)).mono ?_
    rintro e w1 ⟨rfl, hb1⟩
    rw [HO.out]
    have HB := Lib.hid hb1
    clear hb1
  · go_wp2
    go_ret2
    exact GivesBo.no HO.out HB.out
  · go_wp2_with fail
    refine (blocks_any _ l _ (RdS.more (HL.out.below HB.out) HB.out.size) HO.out).mono ?_
    rintro e w2 hg
    have HG := Lib.hid (GivesBo.yes HO.out HB.out hg)
    obtain ⟨v2, rfl, -, -⟩ := hg
    go_wp2
    go_ret2
    exact HG.out


/-- The blocks of valid events, where there are not too many. -/
theorem good_of {l : List Ev} (h : okEvs l = true) (hc : bksC l = 0) : (∀ x ∈ bksL l, GoodB 2000 x) ∧ (bksL l).length ≤ 60 := by
  cases ho : bkO l with
  | none => rw [(bks_none ho).2] at hc; omega
  | some o =>
    rw [(bks_some ho).1]
    exact good_bks h ho
theorem LetsN.lets {n : Nat} {l : List Int} (h : LetsN n l) (hn : n ≤ 12) : Lets l := fun x hx => by
  obtain ⟨h1, h2⟩ := h x hx
  exact ⟨h1, by omega, by omega⟩
theorem fit_of {l : List Ev} (h : okEvs l = true) (hc : bksC l = 0) : FitEB (bksL l) := by
  obtain ⟨h1, h2⟩ := good_of h hc
  refine ⟨by omega, fun x hx => ?_⟩
  have := h1 x hx
  exact ⟨this.lets.lets (by have := this.n1; omega), this.wl, this.el⟩
theorem bksC_cases (l : List Ev) : bksC l = 0 ∨ bksC l = 5 := by unfold bksC; split <;> simp
theorem bksL_nil {l : List Ev} (h : bksC l = 5) : bksL l = [] := by
  cases ho : bkO l with
  | none => exact (bks_none ho).1
  | some o => rw [(bks_some ho).2] at h; omega

/-- The events of the blocks of events. -/
noncomputable def rdcL (l : List Ev) : List Ev := evsB (bkoL l)
theorem GivesC.no5 {w w' : World} {l : List Ev} {c : Int} (h : bkoL l = [] ∧ bkoC l = c) (hb : Below w.heap.size w w') : GivesC w 45 6 (rdcL l).length (vE (rdcL l)) (bkoC l) (.returned (.tuple #[.slice none 0 0, .int .i64 c])) w' := by
  refine ⟨_, by rw [h.2], ?_, hb⟩
  unfold rdcL
  rw [h.1]
  exact .nil



end Go.Proofs.YtccdnmafakaleaaGreatDoor
