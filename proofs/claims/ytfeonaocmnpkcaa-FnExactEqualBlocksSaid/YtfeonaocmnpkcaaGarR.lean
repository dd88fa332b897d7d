/-
  Braids equal as braids, of the program.
-/
import Derived.Test.YtfeonaocmnpkcaaGarQ
import Derived.Test.YtfeonaocmnpkcaaBlk
namespace Go.Proofs.Ytfeonaocmnpkcaa
set_option linter.unusedVariables false
set_option linter.unusedSimpArgs false
open Go.RowKit

/-- Are two braids valid, on as many strands, and equal as braids? -/
noncomputable def eqBr (a b : Br) : Bool := okBr a && (okBr b && (decide (a.n = b.n) && eqW a.n.toNat a.w b.w))
theorem okBr_lets {b : Br} (h : okBr b = true) : ∃ n : Nat, b.n = n ∧ n ≤ 12 ∧ LetsN n b.w ∧ b.w.length ≤ 40 := by
  unfold okBr at h
  simp only [Bool.and_eq_true, decide_eq_true_eq, Bool.not_eq_true', List.any_eq_false] at h
  obtain ⟨⟨h0, h1⟩, h2, h3⟩ := h
  refine ⟨b.n.toNat, by omega, by omega, fun k hk => ?_, h2⟩
  have h4 := h3 k hk
  simp [badL] at h4
  exact ⟨h4.1, by omega⟩

set_option maxHeartbeats 2000000 in
set_option maxRecDepth 100000 in
theorem equalBraids_any (v u : Value) (a b : Br) (w : World) (hl : RdBr w w.heap.size v a) (hm : RdBr w w.heap.size u b) :
    Calls Try.prog 33 #[v, u] w fun e w' => e = .returned (.bool (eqBr a b)) ∧ Below w.heap.size w w' := by
  obtain ⟨s, rfl, hs⟩ := hl
  obtain ⟨p, rfl, hp⟩ := hm
  obtain ⟨A0, n0, c0, rfl⟩ := hs.shape
  obtain ⟨A2, n2, c2, rfl⟩ := hp.shape
  have HS := Lib.hid hs
  have HP := Lib.hid hp
  clear hs hp
  have HB0 := Lib.hid (show Below w.heap.size w ((w.alloc (.cells #[.int .i64 a.n, .slice A0 n0 c0] 30)).alloc (.cells #[.int .i64 b.n, .slice A2 n2 c2] 30)) from ((Below.refl _ _).alloc (Nat.le_refl _) _).alloc (by simp) _)
  have hca : CellsAt ((w.alloc (.cells #[.int .i64 a.n, .slice A0 n0 c0] 30)).alloc (.cells #[.int .i64 b.n, .slice A2 n2 c2] 30)) w.heap.size 0 [.int .i64 a.n, .slice A0 n0 c0] := by
    intro j u hu; rcases j with _ | _ | j <;> simp at hu <;> subst hu <;> simp [go_sem]
  have hcb : CellsAt ((w.alloc (.cells #[.int .i64 a.n, .slice A0 n0 c0] 30)).alloc (.cells #[.int .i64 b.n, .slice A2 n2 c2] 30)) (w.heap.size + 1) 0 [.int .i64 b.n, .slice A2 n2 c2] := by
    intro j u hu; rcases j with _ | _ | j <;> simp at hu <;> subst hu <;> simp [go_sem]
  have HCA := Lib.hid hca
  have HCB := Lib.hid hcb
  clear hca hcb
  have HK := Lib.hid (validBraid_any _ a _ ⟨_, rfl, HS.out.up HB0.out HB0.out.size⟩)
  cases hoa : okBr a
  · rw [hoa] at HK
    have HR : Hid (eqBr a b = false) := by unfold Hid eqBr; rw [hoa]; rfl
    clear hoa
    go_enter Try.func33, Try.ntmps33
    go_wp2_with fail
    refine HK.out.mono ?_
    rintro e w1 ⟨rfl, hb⟩
    have HB := Lib.hid (HB0.out.trans (hb.mono HB0.out.size))
    clear hb
    go_wp2
    go_ret
    exact ⟨ret_bool HR.out.symm, HB.out⟩
  · rw [hoa] at HK
    have HOA := Lib.hid hoa
    clear hoa
    cases hob : okBr b
    · have HOB := Lib.hid hob
      have HR : Hid (eqBr a b = false) := by unfold Hid eqBr; rw [hob, HOA.out]; rfl
      clear hob
      go_enter Try.func33, Try.ntmps33
      go_wp2_with fail
      refine HK.out.mono ?_
      rintro e w1 ⟨rfl, hb⟩
      obtain ⟨x0, x1⟩ := (HCB.out.below hb (by simp)).two
      have HB := Lib.hid (HB0.out.trans (hb.mono HB0.out.size))
      clear hb
      go_wp2_with fail
      refine (validBraid_any _ b _ ⟨_, rfl, HP.out.up HB.out HB.out.size⟩).mono ?_
      rintro e w2 ⟨rfl, hb⟩
      rw [HOB.out]
      have HB2 := Lib.hid (HB.out.trans (hb.mono HB.out.size))
      clear hb
      go_wp2
      go_ret
      exact ⟨ret_bool HR.out.symm, HB2.out⟩
    · have HOB := Lib.hid hob
      clear hob
      obtain ⟨na, hna, hna12, hla, hlal⟩ := okBr_lets HOA.out
      obtain ⟨nb, hnb, hnb12, hlb, hlbl⟩ := okBr_lets HOB.out
      have HLA := Lib.hid hla
      have HLB := Lib.hid hlb
      clear hla hlb
      by_cases hn : na = nb
      · subst hn
        have HR : Hid (eqBr a b = eqW na a.w b.w) := by unfold Hid eqBr; rw [HOB.out, HOA.out, hna, hnb]; simp
        rw [hna] at HB0 HCA HCB HK ⊢
        rw [hnb] at HB0 HCA HCB HK ⊢
        have hnb' := Lib.hid hnb
        clear hna hnb
        go_enter Try.func33, Try.ntmps33
        go_wp2_with fail
        refine HK.out.mono ?_
        rintro e w1 ⟨rfl, hb⟩
        obtain ⟨x0, x1⟩ := (HCB.out.below hb (by simp)).two
        have HB := Lib.hid (HB0.out.trans (hb.mono HB0.out.size))
        have HCA1 := Lib.hid (HCA.out.below hb (by simp; try omega))
        have HCB1 := Lib.hid (HCB.out.below hb (by simp))
        have hz1 := hb.size
        simp at hz1
        clear hb
        go_wp2_with fail
        refine (validBraid_any _ b _ ⟨_, by rw [hnb'.out], HP.out.up HB.out HB.out.size⟩).mono ?_
        rintro e w2 ⟨rfl, hb⟩
        rw [HOB.out]
        have HB2 := Lib.hid (HB.out.trans (hb.mono HB.out.size))
        clear x0 x1
        obtain ⟨x0, x1⟩ := (HCB1.out.below hb (by omega)).two
        obtain ⟨y0, y1⟩ := (HCA1.out.below hb (by omega)).two
        clear hb
        have HQ := Lib.hid (equalWords_any na hna12 a.w b.w HLA.out HLB.out (by omega) (by omega) _ _ w2 (HS.out.up HB2.out HB2.out.size) (HP.out.up HB2.out HB2.out.size))
        go_wp2_with fail
        refine HQ.out.mono ?_
        rintro e w3 ⟨rfl, hb⟩
        have HB3 := Lib.hid (HB2.out.trans (hb.mono HB2.out.size))
        clear hb
        go_wp2
        go_ret
        exact ⟨ret_bool HR.out.symm, HB3.out⟩
      · have HR : Hid (eqBr a b = false) := by unfold Hid eqBr; rw [HOB.out, HOA.out, hna, hnb]; simp; omega
        have hd : ((na : Int) == (nb : Int)) = false := by simp; omega
        rw [hna] at HB0 HCA HCB HK ⊢
        rw [hnb] at HB0 HCA HCB HK ⊢
        have hnb' := Lib.hid hnb
        clear hna hnb hn
        go_enter Try.func33, Try.ntmps33
        go_wp2_with fail
        refine HK.out.mono ?_
        rintro e w1 ⟨rfl, hb⟩
        obtain ⟨x0, x1⟩ := (HCB.out.below hb (by simp)).two
        have HB := Lib.hid (HB0.out.trans (hb.mono HB0.out.size))
        have HCA1 := Lib.hid (HCA.out.below hb (by simp; try omega))
        have HCB1 := Lib.hid (HCB.out.below hb (by simp))
        have hz1 := hb.size
        simp at hz1
        clear hb
        go_wp2_with fail
        refine (validBraid_any _ b _ ⟨_, by rw [hnb'.out], HP.out.up HB.out HB.out.size⟩).mono ?_
        rintro e w2 ⟨rfl, hb⟩
        rw [HOB.out]
        have HB2 := Lib.hid (HB.out.trans (hb.mono HB.out.size))
        clear x0 x1
        obtain ⟨x0, x1⟩ := (HCB1.out.below hb (by omega)).two
        obtain ⟨y0, y1⟩ := (HCA1.out.below hb (by omega)).two
        clear hb
        go_wp2
        go_ret
        exact ⟨ret_bool HR.out.symm, HB2.out⟩

end Go.Proofs.Ytfeonaocmnpkcaa
