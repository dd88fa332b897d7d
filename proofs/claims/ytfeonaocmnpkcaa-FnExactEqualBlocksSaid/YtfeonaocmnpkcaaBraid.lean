/-
  Braids as plain data, and what the laws' helpers for braids do.
-/
import Derived.Test.YtfeonaocmnpkcaaMark
import Derived.Test.YtfeonaocmnpkcaaInt
import Derived.Test.YtfeonaocmnpkcaaWords
import Derived.Test.YtfeonaocmnpkcaaSame
namespace Go.Proofs.Ytfeonaocmnpkcaa
set_option linter.unusedVariables false
set_option linter.unusedSimpArgs false
open Go.RowKit

structure Br where
  n : Int
  w : List Int
deriving DecidableEq

/-- A braid by value that reads as b, its word below block B. -/
def RdBr (w : World) (B : Nat) (v : Value) (b : Br) : Prop := ∃ s, v = .agg #[.int .i64 b.n, s] ∧ RdI w B s b.w
/-- A braid by value whose word is the caller's own. -/
def OwBr (w : World) (lo hi : Nat) (v : Value) (b : Br) : Prop := ∃ s, v = .agg #[.int .i64 b.n, s] ∧ OwC w lo hi 2 1 s b.w.length (vI b.w)

theorem RdI.up {w w' : World} {B : Nat} {v : Value} {l : List Int} (h : RdI w B v l) (hb : Below B w w') (hB : B ≤ w'.heap.size) : RdI w' w'.heap.size v l := (h.below hb).more hB
theorem RdI.shape {w : World} {B : Nat} {v : Value} {l : List Int} (h : RdI w B v l) : ∃ A n c, v = .slice A n c := by
  obtain ⟨A, n, c, rfl, _⟩ := h
  exact ⟨A, n, c, rfl⟩
theorem RdBr.of_own {w : World} {lo hi : Nat} {v : Value} {b : Br} (h : OwBr w lo hi v b) : RdBr w hi v b := by
  obtain ⟨s, hv, ho⟩ := h
  exact ⟨s, hv, RdI.of_own ho⟩
theorem RdBr.below {w w' : World} {B : Nat} {v : Value} {b : Br} (h : RdBr w B v b) (hb : Below B w w') : RdBr w' B v b := by
  obtain ⟨s, hv, ho⟩ := h
  exact ⟨s, hv, ho.below hb⟩
theorem RdBr.more {w : World} {B B' : Nat} {v : Value} {b : Br} (h : RdBr w B v b) (hB : B ≤ B') : RdBr w B' v b := by
  obtain ⟨s, hv, ho⟩ := h
  exact ⟨s, hv, ho.more hB⟩
theorem OwBr.below {w w' : World} {lo hi : Nat} {v : Value} {b : Br} (h : OwBr w lo hi v b) (hb : Below hi w w') : OwBr w' lo hi v b := by
  obtain ⟨s, hv, ho⟩ := h
  exact ⟨s, hv, ho.below hb⟩
theorem OwBr.only {w w' : World} {lo hi l h : Nat} {v : Value} {b : Br} (ho : OwBr w lo hi v b) (hw : Only l h w w') (hd : hi ≤ l ∨ h ≤ lo) (hs : hi ≤ w.heap.size) : OwBr w' lo hi v b := by
  obtain ⟨s, hv, ho⟩ := ho
  exact ⟨s, hv, ho.only hw hd hs⟩

def GivesBr (w : World) (b : Br) (e : Ending) (w' : World) : Prop := ∃ v, e = .returned v ∧ OwBr w' w.heap.size w'.heap.size v b ∧ Below w.heap.size w w'

set_option maxHeartbeats 1000000 in
theorem toBraid_any (v : Value) (b : Br) (w : World) (hl : RdBr w w.heap.size v b) (hlen : b.w.length ≤ 1048576) :
    Calls Try.prog 32 #[v] w (GivesBr w b) := by
  obtain ⟨s, rfl, hs⟩ := hl
  obtain ⟨A0, n0, c0, rfl⟩ := hs.shape
  have HS := Lib.hid hs
  have HN := Lib.hid hlen
  clear hs hlen
  go_enter Try.func32, Try.ntmps32
  go_wp2_with fail
  refine (toInt64S_any _ b.w _ (HS.out.up ((((Below.refl _ _).alloc (Nat.le_refl _) _).alloc (by simp) _).alloc (by simp; omega) _) (by simp; omega)) HN.out).mono ?_
  rintro e w1 ⟨v1, rfl, ho, hb⟩
  obtain ⟨A1, c1, rfl, -⟩ := ho.cells
  have hc := bcell hb
  have r0 : w1.cell? ⟨w.heap.size + 1, 0, none⟩ = some (.int .i64 0) := by rw [hc.1 _ _ (by simp; try omega)]; simp [go_sem]
  have r1 : w1.cell? ⟨w.heap.size + 1, 1, none⟩ = some (.slice none 0 0) := by rw [hc.1 _ _ (by simp)]; simp [go_sem]
  have r2 : w1.cell? ⟨w.heap.size + 1 + 1, 1, none⟩ = some (.slice none 0 0) := by rw [hc.1 _ _ (by simp)]; simp [go_sem]
  have HO := Lib.hid ho
  have HB := Lib.hid hb
  clear ho hb
  go_wp2
  refine bodyPost_ret (v := .agg #[.int .i64 b.n, .slice A1 b.w.length c1]) (by simp [results, Try.results32, go_sem, r0, r1, r2, World.cell?_setCell_other]) rfl ⟨_, rfl, ⟨_, rfl, ?_⟩, ?_⟩
  · exact ((HO.out.only ((((Only.refl w.heap.size (w.heap.size + 3) w1).setCell (by simp; try omega) (by simp; try omega) _).setCell (by simp; try omega) (by simp; try omega) _).setCell (by simp; try omega) (by simp; try omega) _) (.inr (by simp; try omega)) (Nat.le_refl _)).wide (by simp; try omega) (by simp; try omega))
  · exact ((((((Below.refl _ _).alloc (Nat.le_refl _) _).alloc (by simp) _).alloc (by simp; omega) _).trans (HB.out.mono (by simp; omega))).setCell (by simp; try omega) _ |>.setCell (by simp; try omega) _ |>.setCell (by simp; try omega) _)

set_option maxHeartbeats 1000000 in
theorem eqBraid_any (v u : Value) (a b : Br) (w : World) (hl : RdBr w w.heap.size v a) (hm : RdBr w w.heap.size u b) :
    Calls Try.prog 35 #[v, u] w fun e w' => e = .returned (.bool (decide (a = b))) ∧ Below w.heap.size w w' := by
  obtain ⟨s, rfl, hs⟩ := hl
  obtain ⟨t, rfl, ht⟩ := hm
  obtain ⟨n, wd⟩ := a
  obtain ⟨m, we⟩ := b
  obtain ⟨A0, n0, c0, rfl⟩ := hs.shape
  obtain ⟨A1, n1, c1, rfl⟩ := ht.shape
  have HS := Lib.hid hs
  have HT := Lib.hid ht
  clear hs ht
  simp only at HS HT
  by_cases h : n = m
  · subst h
    have hd : decide ((⟨n, wd⟩ : Br) = ⟨n, we⟩) = decide (wd = we) := by simp
    rw [hd]
    clear hd
    cases hq : decide (wd = we)
    all_goals
      have HQ := Lib.hid hq
      clear hq
      go_enter Try.func35, Try.ntmps35
      go_wp2_with fail
      refine (eqInt64S_any _ _ wd we _ _ (HS.out.up (((Below.refl _ _).alloc (Nat.le_refl _) _).alloc (by simp) _) (by simp; omega)) (HT.out.up (((Below.refl _ _).alloc (Nat.le_refl _) _).alloc (by simp) _) (by simp; omega)) (Nat.le_refl _)).mono ?_
      rintro e w1 ⟨rfl, hb⟩
      rw [HQ.out]
      have HB := Lib.hid ((((Below.refl _ _).alloc (Nat.le_refl _) _).alloc (by simp) _).trans (hb.mono (by simp; omega)))
      clear hb
      go_wp2
      go_ret
      exact ⟨rfl, HB.out⟩
  · have hd : decide ((⟨n, wd⟩ : Br) = ⟨m, we⟩) = false := by simp [h]
    rw [hd]
    have h1 : (n != m) = true := by simpa using h
    go_enter Try.func35, Try.ntmps35
    go_wp2
    go_ret
    exact ⟨rfl, ((Below.refl _ _).alloc (Nat.le_refl _) _).alloc (by simp) _⟩

/- szTS: szInt64S theorem's name · laws.szInt64S function · RdI the reading's predicate · Int element type -/
theorem szInt64S_any (v : Value) (l : List Int) (left : Int) (w : World) (B : Nat) (hl : RdI w B v l) (h0 : 0 ≤ left) (h1 : left ≤ 1048576) :
    Calls Try.prog 50 #[v, .int .i64 left] w fun e w' => e = .returned (.int .i64 (szOf left l.length)) ∧ w = w' := by
  obtain ⟨A, n, c, rfl, hln, hl, gl⟩ := hl
  rw [hl.out]
  clear gl
  by_cases h : (n : Int) ≤ left
  · have hs : szOf left n = left - n := by simp [szOf, h]
    have HS := Lib.hid hs
    clear hs
    go_enter Try.func50, Try.ntmps50
    go_wp2
    go_ret
    exact ⟨ret_int HS.out.symm, rfl⟩
  · have hs : szOf left n = -1 := by simp [szOf, h]
    have HS := Lib.hid hs
    clear hs
    go_enter Try.func50, Try.ntmps50
    go_wp2
    go_ret
    exact ⟨ret_int HS.out.symm, rfl⟩

def szBr (left : Int) (b : Br) : Int := szOf left b.w.length
set_option maxHeartbeats 1000000 in
theorem szBraid_any (v : Value) (b : Br) (left : Int) (w : World) (hl : RdBr w w.heap.size v b) (h0 : 0 ≤ left) (h1 : left ≤ 1048576) :
    Calls Try.prog 29 #[v, .int .i64 left] w fun e w' => e = .returned (.int .i64 (szBr left b)) ∧ Below w.heap.size w w' := by
  obtain ⟨s, rfl, hs⟩ := hl
  obtain ⟨A0, n0, c0, rfl⟩ := hs.shape
  have HS := Lib.hid hs
  clear hs
  unfold szBr
  by_cases h : (b.w.length : Int) ≤ left
  · have HZ := Lib.hid (szOf_yes h)
    rw [HZ.out]
    go_enter Try.func29, Try.ntmps29
    go_wp2_with fail
    refine (szInt64S_any _ b.w _ _ _ (HS.out.up ((Below.refl _ _).alloc (Nat.le_refl _) _) (by simp)) h0 h1).mono ?_
    rintro e w1 ⟨rfl, rfl⟩
    rw [HZ.out]
    go_wp2
    go_ret
    exact ⟨rfl, (Below.refl _ _).alloc (Nat.le_refl _) _⟩
  · have HZ := Lib.hid (szOf_no h)
    rw [HZ.out]
    go_enter Try.func29, Try.ntmps29
    go_wp2_with fail
    refine (szInt64S_any _ b.w _ _ _ (HS.out.up ((Below.refl _ _).alloc (Nat.le_refl _) _) (by simp)) h0 h1).mono ?_
    rintro e w1 ⟨rfl, rfl⟩
    rw [HZ.out]
    go_wp2
    go_ret
    exact ⟨rfl, (Below.refl _ _).alloc (Nat.le_refl _) _⟩



end Go.Proofs.Ytfeonaocmnpkcaa
