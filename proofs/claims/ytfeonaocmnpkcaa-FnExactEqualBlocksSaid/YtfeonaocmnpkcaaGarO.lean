/-
  The program's normal form of a word; when two are the same.
-/
import Derived.Test.YtfeonaocmnpkcaaGarN
import Derived.Test.YtfeonaocmnpkcaaGarI
import Derived.Test.YtfeonaocmnpkcaaHRow
namespace Go.Proofs.Ytfeonaocmnpkcaa
set_option linter.unusedVariables false
set_option linter.unusedSimpArgs false
open Go.RowKit

set_option maxHeartbeats 1000000 in
theorem sameNormF_any (v u : Value) (a b : List Int) (w : World) (hl : RdI w w.heap.size v a) (hm : RdI w w.heap.size u b) :
    Calls Try.prog 88 #[v, u] w fun e w' => e = .returned (.bool (decide (a = b))) ∧ Below w.heap.size w w' := by
  have HQ := Lib.hid (eqlInts_any v u a b w _ hl hm (Nat.le_refl _))
  obtain ⟨A, c, rfl⟩ := hl.len
  obtain ⟨A', c', rfl⟩ := hm.len
  clear hl hm
  go_enter Try.func88, Try.ntmps88
  go_wp2_with fail
  refine HQ.out.mono ?_
  rintro e w1 ⟨rfl, hb⟩
  go_wp2
  go_ret
  exact ⟨rfl, hb⟩

set_option maxHeartbeats 2000000 in
set_option maxRecDepth 100000 in
theorem eqfL2_any (v u : Value) (l m : List (List Int)) (w : World) (hl : RdL2 w w.heap.size v l) (hm : RdL2 w w.heap.size u m) :
    Calls Try.prog 87 #[v, u, .func (.func 88) #[] #[]] w fun x w' => x = .returned (.bool (decide (l = m))) ∧ Below w.heap.size w w' := by
  have HLL := Lib.hid hl
  have HMM := Lib.hid hm
  obtain ⟨A, n, c, rfl, hln, hl, -⟩ := hl
  obtain ⟨A', n', c', rfl, hmn, hm, -⟩ := hm
  by_cases hlen : n = n'
  · subst hlen
    go_enter Try.func87, Try.ntmps87
    go_wp2
    go_loopw [7, 17] (fun _ i wr => ∃ k : Nat, k ≤ n ∧ i = .int .i64 k ∧ Hid (decide (l = m) = decide (l.drop k = m.drop k)) ∧ Below w.heap.size w wr) (fun _ i _ => n - (intOf i).toNat)
    case atStart => exact ⟨0, Nat.zero_le _, rfl, rfl, Below.refl _ _⟩
    case round =>
      rename_i wr
      obtain ⟨k, hk, rfl, hd, hb⟩ := hrel
      by_cases hlt : k < n
      · obtain ⟨b, off, x, s, rfl, hbb, hlk, hc, hs⟩ := HLL.out.at_ hlt
        obtain ⟨b', off', y, t, rfl, hbb', hmk, hc', ht⟩ := HMM.out.at_ hlt
        have e0 := (hb.cell (p := ⟨b, off + k, none⟩) hbb).trans hc
        have e1 := (hb.cell (p := ⟨b', off' + k, none⟩) hbb').trans hc'
        have HQ := Lib.hid (sameNormF_any s t x y wr ((hs.below hb).more hb.size) ((ht.below hb).more hb.size))
        obtain ⟨As, cs, rfl⟩ := hs.len
        obtain ⟨At, ct, rfl⟩ := ht.len
        have HB := Lib.hid hb
        have Hl := Lib.hid hlk
        have Hm := Lib.hid hmk
        clear hc hc' hlk hmk hb hs ht
        cases hxy : decide (x = y)
        all_goals
          have HXY := Lib.hid hxy
          clear hxy
          go_wp2_with fail
          refine HQ.out.mono ?_
          rintro e w1 ⟨rfl, hb1⟩
          rw [HXY.out]
          have HB1 := Lib.hid (HB.out.trans (hb1.mono HB.out.size))
          clear hb1
          go_wp2
          first
          | (go_ret
             exact ⟨ret_bool (by rw [hd.out, drop_of_get Hl.out, drop_of_get Hm.out]; have := HXY.out; simp_all), HB1.out⟩)
          | exact ⟨⟨k + 1, by omega, by go_num, by unfold Hid; rw [hd.out, drop_of_get Hl.out, drop_of_get Hm.out]; have := HXY.out; simp_all, HB1.out⟩, by simp [intOf]; omega⟩
      · have HB := Lib.hid hb
        clear hb
        go_wp2
        go_ret
        exact ⟨ret_bool (by rw [hd.out, List.drop_of_length_le (by have := hl.out; omega), List.drop_of_length_le (by have := hm.out; omega)]; simp), HB.out⟩
  · have hd1 : ((n : Int) != (n' : Int)) = true := by simp; omega
    go_enter Try.func87, Try.ntmps87
    go_wp2
    go_ret
    exact ⟨ret_bool (by symm; simp; rintro rfl; exact hlen (hl.out.symm.trans hm.out)), Below.refl _ _⟩

/-- The value of a normal form. -/
def RdNF (n : Nat) (w : World) (B : Nat) (v : Value) (s : St) : Prop := ∃ u, v = .agg #[.int .i64 (n : Int), .int .i64 s.p, u] ∧ RdL2 w B u (lstL n s.F)
theorem Fac.rd {n lo gb : Nat} {w : World} {v : Value} {H : List Fh} (h : Fac n lo gb w v H) : RdL2 w w.heap.size v (lstL n (H.map Fh.p)) := by
  obtain ⟨A, c, rfl, h1, h2⟩ := h.off.shape
  unfold maxLen at h2
  refine ⟨A, _, c, rfl, by omega, by simp [Hid, lstL], fun k hk => ?_⟩
  obtain ⟨g, off, cap, x, e, hx, hxm, c0, _, _, _, hg, _⟩ := h.get hk
  injection e with e1 e2 e3
  subst e1 e3
  refine ⟨g, off, lst n x.p, [.slice (some ⟨x.g, 0, none⟩) n x.c], rfl, hg, by simp [lstL, hx], rfl, fun j u hu => ?_, _, rfl, (h.row x hxm).rd⟩
  rcases j with _ | j
  · simp at hu
    subst hu
    simpa using c0
  · simp at hu
theorem isNF_bd {n : Nat} {w : List Int} {s : St} (h : IsNF n w s) : -(w.length : Int) ≤ s.p ∧ s.p ≤ w.length ∧ s.F.length ≤ w.length := by
  obtain ⟨a, h1, h2⟩ := h.ex
  have h3 := h1.len
  rw [raw_len] at h3
  have h4 := pow0_bd w
  omega

theorem lstL_inj {n : Nat} {L M : List Pm} (hL : AllOn n L) (hM : AllOn n M) (h : lstL n L = lstL n M) : L = M := by
  induction L generalizing M with
  | nil =>
    cases M with
    | nil => rfl
    | cons y M => simp [lstL] at h
  | cons x L ih =>
    cases M with
    | nil => simp [lstL] at h
    | cons y M =>
      simp only [lstL, List.map_cons, List.cons.injEq] at h
      rw [lst_inj (hL x (by simp)) (hM y (by simp)) h.1, ih (fun z hz => hL z (List.mem_cons_of_mem _ hz)) (fun z hz => hM z (List.mem_cons_of_mem _ hz)) h.2]
set_option maxHeartbeats 2000000 in
set_option maxRecDepth 100000 in
open Classical in
theorem sameNormal_any (n : Nat) (v u : Value) (s t : St) (w : World) (hs : RdNF n w w.heap.size v s) (ht : RdNF n w w.heap.size u t) (hso : AllOn n s.F) (hto : AllOn n t.F) :
    Calls Try.prog 71 #[v, u] w fun e w' => e = .returned (.bool (decide (s = t))) ∧ Below w.heap.size w w' := by
  obtain ⟨vs, rfl, hs⟩ := hs
  obtain ⟨vt, rfl, ht⟩ := ht
  obtain ⟨As, ns, cs, rfl, _, _, _⟩ := (show RdL2 w w.heap.size vs (lstL n s.F) from hs)
  obtain ⟨At, nt, ct, rfl, _, _, _⟩ := (show RdL2 w w.heap.size vt (lstL n t.F) from ht)
  have HW0 := Lib.hid (show Below w.heap.size w ((w.alloc (.cells #[.int .i64 (n : Int), .int .i64 s.p, .slice As ns cs] 86)).alloc (.cells #[.int .i64 (n : Int), .int .i64 t.p, .slice At nt ct] 86)) from ((Below.refl _ _).alloc (Nat.le_refl _) _).alloc (by simp) _)
  have HQ := Lib.hid (eqfL2_any _ _ _ _ _ ((hs.below HW0.out).more HW0.out.size) ((ht.below HW0.out).more HW0.out.size))
  have HD : Hid (decide (s = t) = (decide (s.p = t.p) && decide (lstL n s.F = lstL n t.F))) := by
    unfold Hid
    rw [Bool.eq_iff_iff]
    simp only [Bool.and_eq_true, decide_eq_true_eq]
    constructor
    · rintro rfl; exact ⟨rfl, rfl⟩
    · rintro ⟨h1, h2⟩
      have h3 := lstL_inj hso hto h2
      obtain ⟨p, F⟩ := s
      obtain ⟨q, G⟩ := t
      simp only at h1 h3
      rw [h1, h3]
  clear hs ht
  by_cases hpq : s.p = t.p
  · rw [hpq] at HQ HW0 HD ⊢
    go_enter Try.func71, Try.ntmps71
    go_wp2_with fail
    refine HQ.out.mono ?_
    rintro e w1 ⟨rfl, hb⟩
    have HB := Lib.hid (HW0.out.trans (hb.mono HW0.out.size))
    clear hb
    go_wp2
    go_ret
    exact ⟨ret_bool (by rw [HD.out]; simp), HB.out⟩
  · have hne : (s.p == t.p) = false := by simpa using hpq
    have HD2 : Hid (decide (s = t) = false) := by unfold Hid; rw [HD.out]; simp [hpq]
    clear HD hpq
    go_enter Try.func71, Try.ntmps71
    go_wp2
    go_ret
    exact ⟨ret_bool HD2.out.symm, HW0.out⟩

end Go.Proofs.Ytfeonaocmnpkcaa
