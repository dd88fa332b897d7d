/-
  Blocks equal, of the reference.
-/
import Derived.Test.YtfeonaocmnpkcaaGarS
namespace Go.Proofs.Ytfeonaocmnpkcaa
set_option linter.unusedVariables false
set_option linter.unusedSimpArgs false
open Go.RowKit

theorem cells_two {w : World} {b o : Nat} {u0 u1 u2 : Value} (h : CellsAt w b o [u0, u1, u2]) : CellsAt w b o [u0, u1] := by
  intro j u hu
  rcases j with _ | _ | j
  · exact h 0 u hu
  · exact h 1 u hu
  · simp at hu

set_option maxHeartbeats 2000000 in
set_option maxRecDepth 100000 in
theorem specEqualBlocks_any (v u : Value) (a b : Bk) (w : World) (hl : RdBkV w w.heap.size v a) (hm : RdBkV w w.heap.size u b) :
    Calls Try.prog 9 #[v, u] w fun e w' => e = .returned (.bool (eqBk a b)) ∧ Below w.heap.size w w' := by
  obtain ⟨s, t, rfl, hs, ht⟩ := hl
  obtain ⟨p, q, rfl, hp, hq⟩ := hm
  have hsv := hs
  have hpv := hp
  obtain ⟨A0, n0, c0, rfl⟩ := hs.shape
  obtain ⟨A1, n1, c1, rfl⟩ := ht.shape'
  obtain ⟨A2, n2, c2, rfl⟩ := hp.shape
  obtain ⟨A3, n3, c3, rfl⟩ := hq.shape'
  have HS := Lib.hid hs
  have HT := Lib.hid ht
  have HP := Lib.hid hp
  have HQ := Lib.hid hq
  clear hs ht hp hq hsv hpv
  have HB0 := Lib.hid (show Below w.heap.size w ((w.alloc (.cells #[.int .i64 a.b.n, .slice A0 n0 c0, .slice A1 n1 c1] 33)).alloc (.cells #[.int .i64 b.b.n, .slice A2 n2 c2, .slice A3 n3 c3] 33)) from ((Below.refl _ _).alloc (Nat.le_refl _) _).alloc (by simp) _)
  have hca : CellsAt ((w.alloc (.cells #[.int .i64 a.b.n, .slice A0 n0 c0, .slice A1 n1 c1] 33)).alloc (.cells #[.int .i64 b.b.n, .slice A2 n2 c2, .slice A3 n3 c3] 33)) w.heap.size 0 [.int .i64 a.b.n, .slice A0 n0 c0, .slice A1 n1 c1] := by
    intro j u hu; rcases j with _ | _ | _ | j <;> simp at hu <;> subst hu <;> simp [go_sem]
  have hcb : CellsAt ((w.alloc (.cells #[.int .i64 a.b.n, .slice A0 n0 c0, .slice A1 n1 c1] 33)).alloc (.cells #[.int .i64 b.b.n, .slice A2 n2 c2, .slice A3 n3 c3] 33)) (w.heap.size + 1) 0 [.int .i64 b.b.n, .slice A2 n2 c2, .slice A3 n3 c3] := by
    intro j u hu; rcases j with _ | _ | _ | j <;> simp at hu <;> subst hu <;> simp [go_sem]
  have HCA := Lib.hid hca
  have HCB := Lib.hid hcb
  clear hca hcb
  have HK := Lib.hid (l03Ok_any a.b _ w.heap.size _ (cells_two HCA.out) (HS.out.up HB0.out HB0.out.size))
  have HR : Hid (eqBk a b = (okBr a.b && (okBr b.b && (decide (a.b.n = b.b.n) && (decide (a.e = b.e) && eqW a.b.n.toNat a.b.w b.b.w))))) := by
    unfold Hid eqBk eqBr
    cases okBr a.b <;> cases okBr b.b <;> cases decide (a.b.n = b.b.n) <;> cases decide (a.e = b.e) <;> simp
  generalize eqBk a b = R at *
  cases hoa : okBr a.b
  · rw [hoa] at HK HR
    clear hoa
    go_enter Try.func9, Try.ntmps9
    go_wp2_with fail
    refine HK.out.mono ?_
    rintro e w1 ⟨rfl, hb⟩
    have HB := Lib.hid (HB0.out.trans (hb.mono HB0.out.size))
    clear hb
    go_wp2
    go_ret
    exact ⟨ret_bool (by rw [HR.out]; rfl), HB.out⟩
  · rw [hoa] at HK HR
    have HOA := Lib.hid hoa
    clear hoa
    go_enter Try.func9, Try.ntmps9
    go_wp2_with fail
    refine HK.out.mono ?_
    rintro e w1 ⟨rfl, hb⟩
    have HCA1 := Lib.hid (HCA.out.below hb (by simp; try omega))
    have HCB1 := Lib.hid (HCB.out.below hb (by simp))
    have HB := Lib.hid (HB0.out.trans (hb.mono HB0.out.size))
    have hz1 := hb.size
    simp at hz1
    clear hb
    have HK2 := Lib.hid (l03Ok_any b.b _ (w.heap.size + 1) w1 (cells_two HCB1.out) (HP.out.up HB.out HB.out.size))
    cases hob : okBr b.b
    · rw [hob] at HK2 HR
      clear hob
      go_wp2_with fail
      refine HK2.out.mono ?_
      rintro e w2 ⟨rfl, hb⟩
      have HB2 := Lib.hid (HB.out.trans (hb.mono HB.out.size))
      clear hb
      go_wp2
      go_ret
      exact ⟨ret_bool (by rw [HR.out]; rfl), HB2.out⟩
    · rw [hob] at HK2 HR
      obtain ⟨na, hna, hna12, hla, hlal⟩ := okBr_lets HOA.out
      obtain ⟨nb, hnb, hnb12, hlb, hlbl⟩ := okBr_lets hob
      clear hob
      go_wp2_with fail
      refine HK2.out.mono ?_
      rintro e w2 ⟨rfl, hb⟩
      have HB2 := Lib.hid (HB.out.trans (hb.mono HB.out.size))
      have HQE := Lib.hid (l13Equal_any a b na nb hna hnb hna12 hla hlb hlal hlbl w.heap.size (w.heap.size + 1) _ _ _ _ w2 (by rw [← hna]; exact HCA1.out.below hb (by omega)) (by rw [← hnb]; exact HCB1.out.below hb (by omega)) (HS.out.up HB2.out HB2.out.size) ((HT.out.below HB2.out).more HB2.out.size) (HP.out.up HB2.out HB2.out.size) ((HQ.out.below HB2.out).more HB2.out.size))
      have HE : Hid (R = (decide (na = nb) && (decide (a.e = b.e) && eqW na a.b.w b.b.w))) := by
        unfold Hid
        rw [HR.out, hna, hnb]
        have hdd : decide ((na : Int) = (nb : Int)) = decide (na = nb) := by
          rw [Bool.eq_iff_iff]
          simp only [decide_eq_true_eq]
          omega
        rw [hdd]
        rfl
      clear hb hna hnb hla hlb
      go_wp2_with fail
      refine HQE.out.mono ?_
      rintro e w3 ⟨rfl, hb⟩
      rw [← HE.out]
      have HB3 := Lib.hid (HB2.out.trans (hb.mono HB2.out.size))
      clear hb
      go_wp2
      go_ret
      exact ⟨ret_bool (by simp), HB3.out⟩

end Go.Proofs.Ytfeonaocmnpkcaa
