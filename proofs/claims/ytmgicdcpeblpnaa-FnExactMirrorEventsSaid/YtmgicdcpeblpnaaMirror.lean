/-
  An event in a mirror: the reference's l13Mirror.
-/
import Derived.Test.YtmgicdcpeblpnaaStitches
namespace Go.Proofs.Ytmgicdcpeblpnaa
set_option linter.unusedVariables false
set_option linter.unusedSimpArgs false
open Go.RowKit

def mirE (n : Int) (e : Ev) : Ev := if e.k = 1 then ⟨e.k, n - 2 - e.p, -e.c, e.b, e.y, -e.d⟩ else ⟨e.k, n - e.p - e.c, e.c, e.b, e.y, -e.d⟩

/-- What is asked of an event so that no number wraps. -/
structure Tame (n : Int) (e : Ev) : Prop where
  p0 : 0 ≤ e.p
  p1 : e.p ≤ 12
  c0 : -1 ≤ e.c
  c1 : e.c ≤ 4
  d0 : -1 ≤ e.d
  d1 : e.d ≤ 1

set_option maxHeartbeats 4000000 in
set_option maxRecDepth 100000 in
theorem l13Mirror_any (e : Ev) (n : Int) (h0 : 0 ≤ n) (h1 : n ≤ 12) (ht : Tame n e) (hk : e.k = 1 ∨ e.k = 2 ∨ (e.k = 3 ∧ e.c = 0) ∨ e.k = 4) (w : World) :
    Calls Try.prog 90 #[e.v, .int .i64 n] w fun x w' => x = .returned (mirE n e).v ∧ Below w.heap.size w w' := by
  obtain ⟨p0, p1, c0, c1, d0, d1⟩ := ht
  obtain ⟨k, p, c, b, y, d⟩ := e
  simp only at p0 p1 c0 c1 d0 d1 hk
  rcases hk with rfl | rfl | ⟨rfl, rfl⟩ | rfl
  all_goals
    go_enter Try.func90, Try.ntmps90
    go_wp2
  · refine bodyPost_ret (v := (mirE n ⟨1, p, c, b, y, d⟩).v) (by simp [results, Try.results90, go_sem, mirE]) rfl ⟨rfl, ?_⟩
    exact (((Below.refl _ _).alloc (Nat.le_refl _) _).alloc (by simp) _).alloc (by simp; omega) _
  · refine bodyPost_ret (v := (mirE n ⟨2, p, c, b, y, d⟩).v) (by simp [results, Try.results90, go_sem, mirE]) rfl ⟨rfl, ?_⟩
    exact (((Below.refl _ _).alloc (Nat.le_refl _) _).alloc (by simp) _).alloc (by simp; omega) _
  · refine bodyPost_ret (v := (mirE n ⟨3, p, 0, b, y, d⟩).v) (by simp [results, Try.results90, go_sem, mirE]) rfl ⟨rfl, ?_⟩
    exact (((Below.refl _ _).alloc (Nat.le_refl _) _).alloc (by simp) _).alloc (by simp; omega) _
  · refine bodyPost_ret (v := (mirE n ⟨4, p, c, b, y, d⟩).v) (by simp [results, Try.results90, go_sem, mirE]) rfl ⟨rfl, ?_⟩
    exact (((Below.refl _ _).alloc (Nat.le_refl _) _).alloc (by simp) _).alloc (by simp; omega) _

end Go.Proofs.Ytmgicdcpeblpnaa
