/-
  YarnOf, of the program and of the reference: a list and a code.
-/
import Derived.Test.YtogaellhkjjeaaaMcFab
import Derived.Test.YtogaellhkjjeaaaMcAsk
namespace Go.Proofs.Ytogaellhkjjeaaa
set_option linter.unusedVariables false
set_option linter.unusedSimpArgs false
open Go.RowKit

theorem l07Ok_p (m : Mc) (g : Nat) (w : World) (h : RdP w g m) (hdr : m.dr.length ≤ 1048576) :
    Calls Try.prog 67 #[.pointer (some ⟨g, 0, none⟩)] w fun e w' => e = .returned (.bool (okM m)) ∧ Below w.heap.size w w' := by
  obtain ⟨F, G, C, L, D, hc, h1, h2, h3, h4, h5, h6⟩ := h
  exact l07Ok_any m F G C L D g w hc h1 h2 h3 h4 h5 hdr
theorem l11Ask_p (m : Mc) (g : Nat) (k : Int) (w : World) (h : RdP w g m) (hdr : m.dr.length ≤ 1048576) :
    Calls Try.prog 78 #[.pointer (some ⟨g, 0, none⟩), .int .i64 k] w fun e w' => e = .returned (.int .i64 (askC m k)) ∧ Below w.heap.size w w' := by
  obtain ⟨F, G, C, L, D, hc, h1, h2, h3, h4, h5, h6⟩ := h
  exact l11Ask_any m F G C L D g k w hc h1 h2 h3 h4 h5 hdr

/-- A list that is told if the code is 0. -/
def okList (c : Int) (l : List Int) : List Int := if c = 0 then l else []
theorem okList_no {c : Int} {l : List Int} (h : c ≠ 0) : okList c l = [] := by unfold okList; rw [if_neg h]
theorem okList_yes {c : Int} {l : List Int} (h : c = 0) : okList c l = l := by unfold okList; rw [if_pos h]
theorem okList_len {c : Int} {l : List Int} {n : Nat} (h : c = 0 → l.length ≤ n) : (okList c l).length ≤ n := by
  unfold okList
  split
  · rename_i hc; exact h hc
  · simp
theorem GivesC.nil {w w' : World} {E sz : Nat} {code c : Int} {l : List Int} (hc : c ≠ 0) (e : code = c) (hb : Below w.heap.size w w') : GivesC w E sz (okList c l).length (vI (okList c l)) code (.returned (.tuple #[.slice none 0 0, .int .i64 c])) w' := by
  subst e
  rw [okList_no hc]
  exact ⟨_, rfl, OwC.nil, hb⟩
theorem GivesC.yes {w w' : World} {E sz : Nat} {code c : Int} {v : Value} {l : List Int} (hc : c = 0) (e : code = c) (ho : OwC w' w.heap.size w'.heap.size E sz v l.length (vI l)) (hb : Below w.heap.size w w') : GivesC w E sz (okList c l).length (vI (okList c l)) code (.returned (.tuple #[v, .int .i64 0])) w' := by
  subst e
  subst hc
  rw [okList_yes rfl]
  exact ⟨_, rfl, ho, hb⟩

/-- The code of a machine and a carrier. -/
def yarnC (m : Mc) (c : Int) : Int := if okM m = false then 1 else if inB 1 c 4 = false then 2 else 0
theorem yarnC_bad {m : Mc} {c : Int} (h : okM m = false) : yarnC m c = 1 := by simp [yarnC, h]
theorem yarnC_rng {m : Mc} {c : Int} (h : okM m = true) (h1 : inB 1 c 4 = false) : yarnC m c = 2 := by simp [yarnC, h, h1]
theorem yarnC_ok {m : Mc} {c : Int} (h : okM m = true) (h1 : inB 1 c 4 = true) : yarnC m c = 0 := by simp [yarnC, h, h1]

theorem yarn_p (m : Mc) (g : Nat) (c : Int) (w : World) (h : RdP w g m) (h300 : m.ls.length ≤ 300) :
    Calls Try.prog 62 #[.pointer (some ⟨g, 0, none⟩), .int .i64 c] w (GivesOw w 2 1 (yarnGo c 0 m.ls).length (vI (yarnGo c 0 m.ls))) := by
  obtain ⟨F, G, C, L, D, hc, h1, h2, h3, h4, h5, h6⟩ := h
  exact yarn_any m F G C L D g c w hc h4 h300
theorem OwC.lo {w : World} {lo lo' hi E sz n : Nat} {v : Value} {xs : List Value} (h : OwC w lo hi E sz v n xs) (hl : lo' ≤ lo) : OwC w lo' hi E sz v n xs := h.wide hl (Nat.le_refl _)

set_option maxHeartbeats 4000000 in
set_option maxRecDepth 100000 in
theorem implYarn_any (v : Value) (m : Mc) (c : Int) (w : World) (hl : RdM w w.heap.size v m) (hf : FitM m) :
    Calls Try.prog 15 #[v, .int .i64 c] w (GivesC w 2 1 (okList (yarnC m c) (yarnGo c 0 m.ls)).length (vI (okList (yarnC m c) (yarnGo c 0 m.ls))) (yarnC m c)) := by
  have hl0 := hl
  obtain ⟨f, b, cs, ls, d, rfl, h1, h2, h3, h4, h5, h6⟩ := hl
  obtain ⟨AF, cF, rfl⟩ := RdN.shape h1
  obtain ⟨AG, cG, rfl⟩ := RdN.shape h2
  obtain ⟨AC, cC, rfl⟩ := RdS.lens h3
  obtain ⟨AI, cI, rfl⟩ := RdN.shape h4
  obtain ⟨AD, cD, rfl⟩ := RdI.len h5
  have BW := Lib.hid (show Below w.heap.size w (w.alloc (.cells #[.int .i64 m.wd, .int .i64 m.rk, .slice AF m.fr.length cF, .slice AG m.bk.length cG, .slice AC m.cs.length cC, .slice AI m.ls.length cI, .slice AD m.dr.length cD] 29)) from (Below.refl _ _).alloc (Nat.le_refl _) _)
  have HP := Lib.hid (RdP.box (T := 29) h1 h2 h3 h4 h5 h6)
  have HM := Lib.hid (hl0.up BW.out BW.out.size)
  clear h1 h2 h3 h4 h5 h6 hl0
  generalize hY : yarnC m c = Y
  generalize hR : okList Y (yarnGo c 0 m.ls) = R
  cases hok : okM m
  · have hC := yarnC_bad (c := c) hok
    have HN := Lib.hid (show ∀ w', Below w.heap.size w w' → GivesC w 2 1 R.length (vI R) Y (.returned (.tuple #[.slice none 0 0, .int .i64 1])) w' from fun w' hb => by rw [← hR]; rw [← hY, hC]; exact GivesC.nil (by decide) rfl hb)
    have HK := Lib.hid hok
    clear hok hC hY hR
    go_enter Try.func15, Try.ntmps15
    go_wp2_with fail
    refine (validMachine_any _ m _ HM.out).mono ?_
    rintro e w1 ⟨rfl, hb⟩
    rw [HK.out]
    have HB := Lib.hid (BW.out.trans (hb.mono BW.out.size))
    clear hb
    go_wp2
    go_ret2
    exact HN.out _ HB.out
  · have HK := Lib.hid hok
    have h300 := ls_len hok
    cases hin : inB 1 c 4
    · have hC := yarnC_rng hok hin
      have HN := Lib.hid (show ∀ w', Below w.heap.size w w' → GivesC w 2 1 R.length (vI R) Y (.returned (.tuple #[.slice none 0 0, .int .i64 2])) w' from fun w' hb => by rw [← hR]; rw [← hY, hC]; exact GivesC.nil (by decide) rfl hb)
      have HI := Lib.hid hin
      clear hin hok hC hY hR
      go_enter Try.func15, Try.ntmps15
      go_wp2_with fail
      refine (validMachine_any _ m _ HM.out).mono ?_
      rintro e w1 ⟨rfl, hb⟩
      rw [HK.out]
      have HB := Lib.hid (BW.out.trans (hb.mono BW.out.size))
      clear hb
      go_wp2_with (go_at_call 65; refine (isCarrier_s _ _).mono ?_; rintro e w' ⟨rfl, rfl⟩; rw [HI.out])
      go_ret2
      exact HN.out _ HB.out
    · have hC := yarnC_ok hok hin
      have HN := Lib.hid (show ∀ v w', OwC w' w.heap.size w'.heap.size 2 1 v (yarnGo c 0 m.ls).length (vI (yarnGo c 0 m.ls)) → Below w.heap.size w w' → GivesC w 2 1 R.length (vI R) Y (.returned (.tuple #[v, .int .i64 0])) w' from fun v w' ho hb => by rw [← hR]; rw [← hY, hC]; exact GivesC.yes rfl rfl ho hb)
      have HI := Lib.hid hin
      clear hin hok hC hY hR
      go_enter Try.func15, Try.ntmps15
      go_wp2_with fail
      refine (validMachine_any _ m _ HM.out).mono ?_
      rintro e w1 ⟨rfl, hb⟩
      rw [HK.out]
      have HB := Lib.hid (BW.out.trans (hb.mono BW.out.size))
      have HP1 := Lib.hid (HP.out.below hb)
      clear hb
      go_wp2_with (go_at_call 65; refine (isCarrier_s _ _).mono ?_; rintro e w' ⟨rfl, rfl⟩; rw [HI.out])
      refine (yarn_p m _ c _ HP1.out h300).mono ?_
      rintro e w2 ⟨v, rfl, ho, hb⟩
      have HO := Lib.hid (ho.lo HB.out.size)
      have HB2 := Lib.hid (HB.out.trans (hb.mono HB.out.size))
      clear ho hb
      go_wp2
      go_ret2
      exact HN.out _ _ HO.out HB2.out


end Go.Proofs.Ytogaellhkjjeaaa
