/-
  Texts joined: GarR, GarS, GarT, Bks4, Bks5, SmP.
-/
import Derived.Test.YtiampiakhkpcbaaPk11
import Derived.Test.YtiampiakhkpcbaaPk7
import Derived.Test.YtiampiakhkpcbaaBraidE
import Derived.Test.YtiampiakhkpcbaaPk13
import Derived.Deep.RegionHeld3
import Derived.OwnWalk
import Derived.Test.YtiampiakhkpcbaaPk1
/-
  Braids equal as braids, of the program.
-/
namespace Go.Proofs.Ytiampiakhkpcbaa
set_option linter.unusedVariables false
set_option linter.unusedSimpArgs false
open Go.RowKit

/-- Are two braids valid, on as many strands, and equal as braids? -/
noncomputable def eqBr (a b : Br) : Bool := okBr a && (okBr b && (decide (a.n = b.n) && eqW a.n.toNat a.w b.w))
theorem okBr_lets {b : Br} (h : okBr b = true) : ∃ n : Nat, b.n = n ∧ n ≤ 12 ∧ LetsN n b.w ∧ b.w.length ≤ 40 := by
  unfold okBr at h
  simp only [Bool.and_eq_true, decide_eq_true_eq, Bool.not_eq_true', List.any_eq_false] at h
  obtain ⟨⟨h0, h1⟩, h2, h3⟩ := h
  refine ⟨b.n.toNat, by omega, by omega, fun k hk => ?_, h2⟩
  have h4 := h3 k hk
  simp [badL] at h4
  exact ⟨h4.1, by omega⟩

set_option maxHeartbeats 2000000 in
set_option maxRecDepth 100000 in
theorem equalBraids_any (v u : Value) (a b : Br) (w : World) (hl : RdBr w w.heap.size v a) (hm : RdBr w w.heap.size u b) :
    Calls Try.prog 33 #[v, u] w fun e w' => e = .returned (.bool (eqBr a b)) ∧ Below w.heap.size w w' := by
  obtain ⟨s, rfl, hs⟩ := hl
  obtain ⟨p, rfl, hp⟩ := hm
  obtain ⟨A0, n0, c0, rfl⟩ := hs.shape
  obtain ⟨A2, n2, c2, rfl⟩ := hp.shape
  have HS := Lib.hid hs
  have HP := Lib.hid hp
  clear hs hp
  have HB0 := Lib.hid (show Below w.heap.size w ((w.alloc (.cells #[.int .i64 a.n, .slice A0 n0 c0] 43)).alloc (.cells #[.int .i64 b.n, .slice A2 n2 c2] 43)) from ((Below.refl _ _).alloc (Nat.le_refl _) _).alloc (by simp) _)
  have hca : CellsAt ((w.alloc (.cells #[.int .i64 a.n, .slice A0 n0 c0] 43)).alloc (.cells #[.int .i64 b.n, .slice A2 n2 c2] 43)) w.heap.size 0 [.int .i64 a.n, .slice A0 n0 c0] := by
    intro j u hu; rcases j with _ | _ | j <;> simp at hu <;> subst hu <;> simp [go_sem]
  have hcb : CellsAt ((w.alloc (.cells #[.int .i64 a.n, .slice A0 n0 c0] 43)).alloc (.cells #[.int .i64 b.n, .slice A2 n2 c2] 43)) (w.heap.size + 1) 0 [.int .i64 b.n, .slice A2 n2 c2] := by
    intro j u hu; rcases j with _ | _ | j <;> simp at hu <;> subst hu <;> simp [go_sem]
  have HCA := Lib.hid hca
  have HCB := Lib.hid hcb
  clear hca hcb
  have HK := Lib.hid (validBraid_any _ a _ ⟨_, rfl, HS.out.up HB0.out HB0.out.size⟩)
  cases hoa : okBr a
  · rw [hoa] at HK
    have HR : Hid (eqBr a b = false) := by unfold Hid eqBr; rw [hoa]; rfl
    clear hoa
    go_enter Try.func33, Try.ntmps33
    go_wp2_with fail
    refine HK.out.mono ?_
    rintro e w1 ⟨rfl, hb⟩
    have HB := Lib.hid (HB0.out.trans (hb.mono HB0.out.size))
    clear hb
    go_wp2
    go_ret
    exact ⟨ret_bool HR.out.symm, HB.out⟩
  · rw [hoa] at HK
    have HOA := Lib.hid hoa
    clear hoa
    cases hob : okBr b
    · have HOB := Lib.hid hob
      have HR : Hid (eqBr a b = false) := by unfold Hid eqBr; rw [hob, HOA.out]; rfl
      clear hob
      go_enter Try.func33, Try.ntmps33
      go_wp2_with fail
      refine HK.out.mono ?_
      rintro e w1 ⟨rfl, hb⟩
      obtain ⟨x0, x1⟩ := (HCB.out.below hb (by simp)).two
      have HB := Lib.hid (HB0.out.trans (hb.mono HB0.out.size))
      clear hb
      go_wp2_with fail
      refine (validBraid_any _ b _ ⟨_, rfl, HP.out.up HB.out HB.out.size⟩).mono ?_
      rintro e w2 ⟨rfl, hb⟩
      rw [HOB.out]
      have HB2 := Lib.hid (HB.out.trans (hb.mono HB.out.size))
      clear hb
      go_wp2
      go_ret
      exact ⟨ret_bool HR.out.symm, HB2.out⟩
    · have HOB := Lib.hid hob
      clear hob
      obtain ⟨na, hna, hna12, hla, hlal⟩ := okBr_lets HOA.out
      obtain ⟨nb, hnb, hnb12, hlb, hlbl⟩ := okBr_lets HOB.out
      have HLA := Lib.hid hla
      have HLB := Lib.hid hlb
      clear hla hlb
      by_cases hn : na = nb
      · subst hn
        have HR : Hid (eqBr a b = eqW na a.w b.w) := by unfold Hid eqBr; rw [HOB.out, HOA.out, hna, hnb]; simp
        rw [hna] at HB0 HCA HCB HK ⊢
        rw [hnb] at HB0 HCA HCB HK ⊢
        have hnb' := Lib.hid hnb
        clear hna hnb
        go_enter Try.func33, Try.ntmps33
        go_wp2_with fail
        refine HK.out.mono ?_
        rintro e w1 ⟨rfl, hb⟩
        obtain ⟨x0, x1⟩ := (HCB.out.below hb (by simp)).two
        have HB := Lib.hid (HB0.out.trans (hb.mono HB0.out.size))
        have HCA1 := Lib.hid (HCA.out.below hb (by simp; try omega))
        have HCB1 := Lib.hid (HCB.out.below hb (by simp))
        have hz1 := hb.size
        simp at hz1
        clear hb
        go_wp2_with fail
        refine (validBraid_any _ b _ ⟨_, by rw [hnb'.out], HP.out.up HB.out HB.out.size⟩).mono ?_
        rintro e w2 ⟨rfl, hb⟩
        rw [HOB.out]
        have HB2 := Lib.hid (HB.out.trans (hb.mono HB.out.size))
        clear x0 x1
        obtain ⟨x0, x1⟩ := (HCB1.out.below hb (by omega)).two
        obtain ⟨y0, y1⟩ := (HCA1.out.below hb (by omega)).two
        clear hb
        have HQ := Lib.hid (equalWords_any na hna12 a.w b.w HLA.out HLB.out (by omega) (by omega) _ _ w2 (HS.out.up HB2.out HB2.out.size) (HP.out.up HB2.out HB2.out.size))
        go_wp2_with fail
        refine HQ.out.mono ?_
        rintro e w3 ⟨rfl, hb⟩
        have HB3 := Lib.hid (HB2.out.trans (hb.mono HB2.out.size))
        clear hb
        go_wp2
        go_ret
        exact ⟨ret_bool HR.out.symm, HB3.out⟩
      · have HR : Hid (eqBr a b = false) := by unfold Hid eqBr; rw [HOB.out, HOA.out, hna, hnb]; simp; omega
        have hd : ((na : Int) == (nb : Int)) = false := by simp; omega
        rw [hna] at HB0 HCA HCB HK ⊢
        rw [hnb] at HB0 HCA HCB HK ⊢
        have hnb' := Lib.hid hnb
        clear hna hnb hn
        go_enter Try.func33, Try.ntmps33
        go_wp2_with fail
        refine HK.out.mono ?_
        rintro e w1 ⟨rfl, hb⟩
        obtain ⟨x0, x1⟩ := (HCB.out.below hb (by simp)).two
        have HB := Lib.hid (HB0.out.trans (hb.mono HB0.out.size))
        have HCA1 := Lib.hid (HCA.out.below hb (by simp; try omega))
        have HCB1 := Lib.hid (HCB.out.below hb (by simp))
        have hz1 := hb.size
        simp at hz1
        clear hb
        go_wp2_with fail
        refine (validBraid_any _ b _ ⟨_, by rw [hnb'.out], HP.out.up HB.out HB.out.size⟩).mono ?_
        rintro e w2 ⟨rfl, hb⟩
        rw [HOB.out]
        have HB2 := Lib.hid (HB.out.trans (hb.mono HB.out.size))
        clear x0 x1
        obtain ⟨x0, x1⟩ := (HCB1.out.below hb (by omega)).two
        obtain ⟨y0, y1⟩ := (HCA1.out.below hb (by omega)).two
        clear hb
        go_wp2
        go_ret
        exact ⟨ret_bool HR.out.symm, HB2.out⟩

end Go.Proofs.Ytiampiakhkpcbaa

/-
  Blocks equal, of the program and of the reference.
-/
namespace Go.Proofs.Ytiampiakhkpcbaa
set_option linter.unusedVariables false
set_option linter.unusedSimpArgs false
open Go.RowKit

noncomputable def eqBk (a b : Bk) : Bool := eqBr a.b b.b && decide (a.e = b.e)

set_option maxHeartbeats 2000000 in
set_option maxRecDepth 100000 in
theorem implEqualBlocks_any (v u : Value) (a b : Bk) (w : World) (hl : RdBkV w w.heap.size v a) (hm : RdBkV w w.heap.size u b) :
    Calls Try.prog 15 #[v, u] w fun e w' => e = .returned (.bool (eqBk a b)) ∧ Below w.heap.size w w' := by
  obtain ⟨s, t, rfl, hs, ht⟩ := hl
  obtain ⟨p, q, rfl, hp, hq⟩ := hm
  obtain ⟨A0, n0, c0, rfl⟩ := hs.shape
  obtain ⟨A1, n1, c1, rfl⟩ := ht.shape'
  obtain ⟨A2, n2, c2, rfl⟩ := hp.shape
  obtain ⟨A3, n3, c3, rfl⟩ := hq.shape'
  obtain ⟨ab, ae⟩ := a
  obtain ⟨bb, be⟩ := b
  have HS := Lib.hid hs
  have HT := Lib.hid ht
  have HP := Lib.hid hp
  have HQ := Lib.hid hq
  clear hs ht hp hq
  dsimp only at HS HT HP HQ
  have HB0 := Lib.hid (show Below w.heap.size w ((w.alloc (.cells #[.int .i64 ab.n, .slice A0 n0 c0, .slice A1 n1 c1] 45)).alloc (.cells #[.int .i64 bb.n, .slice A2 n2 c2, .slice A3 n3 c3] 45)) from ((Below.refl _ _).alloc (Nat.le_refl _) _).alloc (by simp) _)
  have hca : CellsAt ((w.alloc (.cells #[.int .i64 ab.n, .slice A0 n0 c0, .slice A1 n1 c1] 45)).alloc (.cells #[.int .i64 bb.n, .slice A2 n2 c2, .slice A3 n3 c3] 45)) w.heap.size 0 [.int .i64 ab.n, .slice A0 n0 c0, .slice A1 n1 c1] := by
    intro j u hu; rcases j with _ | _ | _ | j <;> simp at hu <;> subst hu <;> simp [go_sem]
  have hcb : CellsAt ((w.alloc (.cells #[.int .i64 ab.n, .slice A0 n0 c0, .slice A1 n1 c1] 45)).alloc (.cells #[.int .i64 bb.n, .slice A2 n2 c2, .slice A3 n3 c3] 45)) (w.heap.size + 1) 0 [.int .i64 bb.n, .slice A2 n2 c2, .slice A3 n3 c3] := by
    intro j u hu; rcases j with _ | _ | _ | j <;> simp at hu <;> subst hu <;> simp [go_sem]
  have HCA := Lib.hid hca
  have HCB := Lib.hid hcb
  clear hca hcb
  have HK := Lib.hid (equalBraids_any _ _ ab bb _ ⟨_, rfl, HS.out.up HB0.out HB0.out.size⟩ ⟨_, rfl, HP.out.up HB0.out HB0.out.size⟩)
  have HR : Hid (eqBk ⟨ab, ae⟩ ⟨bb, be⟩ = (eqBr ab bb && decide (ae = be))) := rfl
  generalize eqBk ⟨ab, ae⟩ ⟨bb, be⟩ = R at *
  cases h : eqBr ab bb
  · rw [h] at HK HR
    clear h
    go_enter Try.func15, Try.ntmps15
    go_wp2_with fail
    refine HK.out.mono ?_
    rintro e w1 ⟨rfl, hb⟩
    have HB := Lib.hid (HB0.out.trans (hb.mono HB0.out.size))
    clear hb
    go_wp2
    go_ret
    exact ⟨ret_bool (by rw [HR.out]; rfl), HB.out⟩
  · rw [h] at HK HR
    clear h
    go_enter Try.func15, Try.ntmps15
    go_wp2_with fail
    refine HK.out.mono ?_
    rintro e w1 ⟨rfl, hb⟩
    obtain ⟨y0, y1, y2⟩ := (HCA.out.below hb (by simp; try omega)).three
    obtain ⟨x0, x1, x2⟩ := (HCB.out.below hb (by simp; try omega)).three
    have HB := Lib.hid (HB0.out.trans (hb.mono HB0.out.size))
    clear hb
    go_wp2_with fail
    refine (eqlEvents_any _ _ ae be _ _ ((HT.out.below HB.out).more HB.out.size) ((HQ.out.below HB.out).more HB.out.size) (Nat.le_refl _)).mono ?_
    rintro e w2 ⟨rfl, hb⟩
    have HB2 := Lib.hid (HB.out.trans (hb.mono HB.out.size))
    clear hb
    go_wp2
    go_ret
    exact ⟨ret_bool (by rw [HR.out]; simp), HB2.out⟩

set_option maxHeartbeats 4000000 in
set_option maxRecDepth 100000 in
theorem l13Equal_any (a b : Bk) (n m : Nat) (hn : a.b.n = n) (hm : b.b.n = m) (hn12 : n ≤ 12) (hla : LetsN n a.b.w) (hlb : LetsN m b.b.w) (hal : a.b.w.length ≤ 40) (hbl : b.b.w.length ≤ 40) (g1 o1 g2 o2 : Nat) (s t p q : Value) (w : World)
    (hc1 : CellsAt w g1 o1 [.int .i64 (n : Int), s, t]) (hc2 : CellsAt w g2 o2 [.int .i64 (m : Int), p, q]) (hs : RdI w w.heap.size s a.b.w) (ht : RdE w w.heap.size t a.e) (hp : RdI w w.heap.size p b.b.w) (hq : RdE w w.heap.size q b.e) :
    Calls Try.prog 41 #[.pointer (some ⟨g1, o1, none⟩), .pointer (some ⟨g2, o2, none⟩)] w fun e w' => e = .returned (.bool (decide (n = m) && (decide (a.e = b.e) && eqW n a.b.w b.b.w))) ∧ Below w.heap.size w w' := by
  obtain ⟨A0, n0, c0, rfl⟩ := hs.shape
  obtain ⟨A1, n1, c1, rfl⟩ := ht.shape'
  obtain ⟨A2, n2, c2, rfl⟩ := hp.shape
  obtain ⟨A3, n3, c3, rfl⟩ := hq.shape'
  obtain ⟨e0, e1, e2⟩ := hc1.grow3
  obtain ⟨f0, f1, f2⟩ := hc2.grow3
  have HQ1 := fun X => Lib.hid (specSameEvents_any _ _ a.e b.e (wgrow w X) _ (show RdE (wgrow w X) (wgrow w X).heap.size _ _ from (ht.below (below_wgrow w X)).more (below_wgrow w X).size) ((hq.below (below_wgrow w X)).more (below_wgrow w X).size) (Nat.le_refl _))
  by_cases hnm : n = m
  · subst hnm
    have HQ2 := fun X => Lib.hid (l04Equal_any n hn12 a.b.w b.b.w hla hlb (by omega) (by omega) _ _ (wgrow w X) (hs.up (below_wgrow w X) (below_wgrow w X).size) (hp.up (below_wgrow w X) (below_wgrow w X).size))
    have hnn : ((n : Int) == (n : Int)) = true := by simp
    clear hc1 hc2 hs ht hp hq hla hlb hal hbl hn hm
    simp only [decide_true, Bool.true_and]
    generalize eqW n a.b.w b.b.w = E at *
    generalize decide (a.e = b.e) = D at *
    cases D
    · go_enter Try.func41, Try.ntmps41
      go_wp2
      refine wp_region_grow (by kernel_rfl) (by kernel_rfl) ?_
      repeat (go_big_quiet_step ((first | (go_at_call 17; exact calls_grow (HQ1 _).out) | (go_at_call 44; exact calls_grow (HQ2 _).out))))
      refine wpQuiet_nil ?_
      intro w1 hb1
      go_wp2
      go_ret
      exact ⟨ret_bool (by simp), hb1⟩
    · go_enter Try.func41, Try.ntmps41
      go_wp2
      refine wp_region_grow (by kernel_rfl) (by kernel_rfl) ?_
      repeat (go_big_quiet_step ((first | (go_at_call 17; exact calls_grow (HQ1 _).out) | (go_at_call 44; exact calls_grow (HQ2 _).out))))
      refine wpQuiet_nil ?_
      intro w1 hb1
      go_wp2
      go_ret
      exact ⟨ret_bool (by simp), hb1⟩
  · have hd : ((n : Int) == (m : Int)) = false := by simp; omega
    have hd2 : decide (n = m) = false := by simpa using hnm
    rw [hd2]
    clear hc1 hc2 hs ht hp hq hla hlb hal hbl hn hm hnm hd2
    go_enter Try.func41, Try.ntmps41
    go_wp2
    refine wp_region_grow (by kernel_rfl) (by kernel_rfl) ?_
    repeat (go_big_quiet_step (fail))
    refine wpQuiet_nil ?_
    intro w1 hb1
    go_wp2
    go_ret
    exact ⟨ret_bool (by simp), hb1⟩

end Go.Proofs.Ytiampiakhkpcbaa

/-
  Blocks equal, of the reference.
-/
namespace Go.Proofs.Ytiampiakhkpcbaa
set_option linter.unusedVariables false
set_option linter.unusedSimpArgs false
open Go.RowKit

theorem cells_two {w : World} {b o : Nat} {u0 u1 u2 : Value} (h : CellsAt w b o [u0, u1, u2]) : CellsAt w b o [u0, u1] := by
  intro j u hu
  rcases j with _ | _ | j
  · exact h 0 u hu
  · exact h 1 u hu
  · simp at hu


end Go.Proofs.Ytiampiakhkpcbaa

/-
  SameFabric and FirstDifference, of the program and of the reference.
-/
namespace Go.Proofs.Ytiampiakhkpcbaa
set_option linter.unusedVariables false
set_option linter.unusedSimpArgs false
open Go.RowKit

/-- The code of two lists of events. -/
noncomputable def prC (a b : List Ev) : Int := if okEvs a = true ∧ okEvs b = true then (if bksC a = 0 then bksC b else bksC a) else 1
/-- Two lists of blocks, and a code. -/
def GivesPr (w : World) (a b : List Ev) (e : Ending) (w' : World) : Prop := ∃ u v, e = .returned (.tuple #[u, v, .int .i64 (prC a b)]) ∧ (prC a b = 0 → RdBks w' w'.heap.size u (bksL a) ∧ RdBks w' w'.heap.size v (bksL b)) ∧ Below w.heap.size w w'
theorem prC_a {a b : List Ev} (h : okEvs a = false) : prC a b = 1 := by simp [prC, h]
theorem prC_b {a b : List Ev} (h : okEvs b = false) : prC a b = 1 := by simp [prC, h]
theorem prC_5 {a b : List Ev} (ha : okEvs a = true) (hb : okEvs b = true) (h : bksC a = 5) : prC a b = 5 := by simp [prC, ha, hb, h]
theorem prC_0 {a b : List Ev} (ha : okEvs a = true) (hb : okEvs b = true) (h : bksC a = 0) : prC a b = bksC b := by simp [prC, ha, hb, h]
theorem prC_good {a b : List Ev} (h : prC a b = 0) : (okEvs a = true ∧ bksC a = 0) ∧ okEvs b = true ∧ bksC b = 0 := by
  unfold prC at h
  split at h
  · rename_i hk
    split at h
    · rename_i h0; exact ⟨⟨hk.1, h0⟩, hk.2, h⟩
    · rcases bksC_cases a with h1 | h1 <;> omega
  · omega
theorem prC_cases (a b : List Ev) : prC a b = 0 ∨ prC a b = 1 ∨ prC a b = 5 := by
  unfold prC
  split
  · split
    · rcases bksC_cases b with h1 | h1 <;> omega
    · rcases bksC_cases a with h1 | h1 <;> omega
  · exact .inr (.inl rfl)

set_option maxHeartbeats 2000000 in
set_option maxRecDepth 100000 in
theorem blockPair_any (u v : Value) (a b : List Ev) (w : World) (hl : RdE w w.heap.size u a) (hm : RdE w w.heap.size v b) : Calls Try.prog 22 #[u, v] w (GivesPr w a b) := by
  have HL := Lib.hid hl
  have HM := Lib.hid hm
  clear hl hm
  cases ha : okEvs a
  · have HA := Lib.hid ha
    have HC := Lib.hid (prC_a (b := b) ha)
    clear ha
    go_enter Try.func22, Try.ntmps22
    go_wp2_with fail
    refine (implValidEvents_any _ a _ _ HL.out (Nat.le_refl _)).mono ?_
    rintro e w1 ⟨rfl, hb1⟩
    rw [HA.out]
    have HB := Lib.hid hb1
    clear hb1
    go_wp2
    go_ret3
    exact ⟨_, _, by rw [HC.out]; rfl, fun h => by rw [HC.out] at h; omega, HB.out⟩
  have HA := Lib.hid ha
  have HQ2 := Lib.hid (fun (w1 : World) (h : Below w.heap.size w w1) => implValidEvents_any v b w1 w1.heap.size (RdS.more (HM.out.below h) h.size) (Nat.le_refl _))
  cases hb : okEvs b
  · have HBO := Lib.hid hb
    have HC := Lib.hid (prC_b (a := a) hb)
    clear ha hb
    go_enter Try.func22, Try.ntmps22
    go_wp2_with fail
    refine (implValidEvents_any _ a _ _ HL.out (Nat.le_refl _)).mono ?_
    rintro e w1 ⟨rfl, hb1⟩
    rw [HA.out]
    have HB := Lib.hid hb1
    clear hb1
    go_wp2_with fail
    refine (HQ2.out _ HB.out).mono ?_
    rintro e w2 ⟨rfl, hb2⟩
    rw [HBO.out]
    have HB2 := Lib.hid (HB.out.trans (hb2.mono HB.out.size))
    clear hb2
    go_wp2
    go_ret3
    exact ⟨_, _, by rw [HC.out]; rfl, fun h => by rw [HC.out] at h; omega, HB2.out⟩
  have HBO := Lib.hid hb
  have HQ3 := Lib.hid (fun (w1 : World) (h : Below w.heap.size w w1) => blocks_any u a w1 (RdS.more (HL.out.below h) h.size) HA.out)
  have HQ4 := Lib.hid (fun (w1 : World) (h : Below w.heap.size w w1) => blocks_any v b w1 (RdS.more (HM.out.below h) h.size) HBO.out)
  rcases bksC_cases a with hc | hc
  · have HC := Lib.hid (prC_0 ha hb hc)
    have HCA := Lib.hid hc
    clear ha hb hc
    go_enter Try.func22, Try.ntmps22
    go_wp2_with fail
    refine (implValidEvents_any _ a _ _ HL.out (Nat.le_refl _)).mono ?_
    rintro e w1 ⟨rfl, hb1⟩
    rw [HA.out]
    have HB := Lib.hid hb1
    clear hb1
    go_wp2_with fail
    refine (HQ2.out _ HB.out).mono ?_
    rintro e w2 ⟨rfl, hb2⟩
    rw [HBO.out]
    have HB2 := Lib.hid (HB.out.trans (hb2.mono HB.out.size))
    clear hb2
    go_wp2_with fail
    refine (HQ3.out _ HB2.out).mono ?_
    rintro e w3 ⟨v3, rfl, ho3, hb3⟩
    rw [HCA.out]
    have HB3 := Lib.hid (HB2.out.trans (hb3.mono HB2.out.size))
    have HR3 := Lib.hid ho3.rd
    clear hb3 ho3
    go_wp2_with fail
    refine (HQ4.out _ HB3.out).mono ?_
    rintro e w4 ⟨v4, rfl, ho4, hb4⟩
    have HB4 := Lib.hid (HB3.out.trans (hb4.mono HB3.out.size))
    have HR4 := Lib.hid ho4.rd
    have HR3' := Lib.hid ((HR3.out.below hb4).more hb4.size)
    clear hb4 ho4
    go_wp2
    go_ret3
    exact ⟨v3, v4, by rw [HC.out]; rfl, fun _ => ⟨HR3'.out, HR4.out⟩, HB4.out⟩
  · have HC := Lib.hid (prC_5 ha hb hc)
    have HCA := Lib.hid hc
    clear ha hb hc
    go_enter Try.func22, Try.ntmps22
    go_wp2_with fail
    refine (implValidEvents_any _ a _ _ HL.out (Nat.le_refl _)).mono ?_
    rintro e w1 ⟨rfl, hb1⟩
    rw [HA.out]
    have HB := Lib.hid hb1
    clear hb1
    go_wp2_with fail
    refine (HQ2.out _ HB.out).mono ?_
    rintro e w2 ⟨rfl, hb2⟩
    rw [HBO.out]
    have HB2 := Lib.hid (HB.out.trans (hb2.mono HB.out.size))
    clear hb2
    go_wp2_with fail
    refine (HQ3.out _ HB2.out).mono ?_
    rintro e w3 ⟨v3, rfl, ho3, hb3⟩
    rw [HCA.out]
    have HB3 := Lib.hid (HB2.out.trans (hb3.mono HB2.out.size))
    clear hb3 ho3
    go_wp2
    go_ret3
    exact ⟨_, _, by rw [HC.out]; rfl, fun h => by rw [HC.out] at h; omega, HB3.out⟩

set_option maxHeartbeats 2000000 in
set_option maxRecDepth 100000 in
theorem l13Both_any (u v : Value) (a b : List Ev) (w : World) (hl : RdE w w.heap.size u a) (hm : RdE w w.heap.size v b) : Calls Try.prog 24 #[u, v] w (GivesPr w a b) := by
  have HL := Lib.hid hl
  have HM := Lib.hid hm
  clear hl hm
  have HQ2 := Lib.hid (fun (w1 : World) (h : Below w.heap.size w w1) => l10Count_any v b w1 w1.heap.size (RdS.more (HM.out.below h) h.size) (Nat.le_refl _))
  by_cases hok : okEvs a = true ∧ okEvs b = true
  · obtain ⟨ha, hb⟩ := hok
    have HA := Lib.hid ha
    have HBO := Lib.hid hb
    have HQ3 := Lib.hid (fun (w1 : World) (h : Below w.heap.size w w1) => l13Blocks_any u a w1 (RdS.more (HL.out.below h) h.size) HA.out)
    have HQ4 := Lib.hid (fun (w1 : World) (h : Below w.heap.size w w1) => l13Blocks_any v b w1 (RdS.more (HM.out.below h) h.size) HBO.out)
    rcases bksC_cases a with hc | hc
    · have HC := Lib.hid (prC_0 ha hb hc)
      have HCA := Lib.hid hc
      clear ha hb hc
      go_enter Try.func24, Try.ntmps24
      go_wp2_with fail
      refine (l10Count_any _ a _ _ HL.out (Nat.le_refl _)).mono ?_
      rintro e w1 ⟨rfl, hb1⟩
      rw [HA.out]
      have HB := Lib.hid hb1
      clear hb1
      go_wp2_with fail
      refine (HQ2.out _ HB.out).mono ?_
      rintro e w2 ⟨rfl, hb2⟩
      rw [HBO.out]
      have HB2 := Lib.hid (HB.out.trans (hb2.mono HB.out.size))
      clear hb2
      go_wp2_with fail
      refine (HQ3.out _ HB2.out).mono ?_
      rintro e w3 ⟨v3, rfl, ho3, hb3⟩
      rw [HCA.out]
      have HB3 := Lib.hid (HB2.out.trans (hb3.mono HB2.out.size))
      have HR3 := Lib.hid ho3.rd
      clear hb3 ho3
      go_wp2_with fail
      refine (HQ4.out _ HB3.out).mono ?_
      rintro e w4 ⟨v4, rfl, ho4, hb4⟩
      have HB4 := Lib.hid (HB3.out.trans (hb4.mono HB3.out.size))
      have HR4 := Lib.hid ho4.rd
      have HR3' := Lib.hid ((HR3.out.below hb4).more hb4.size)
      clear hb4 ho4
      go_wp2
      go_ret3
      exact ⟨v3, v4, by rw [HC.out]; rfl, fun _ => ⟨HR3'.out, HR4.out⟩, HB4.out⟩
    · have HC := Lib.hid (prC_5 ha hb hc)
      have HCA := Lib.hid hc
      clear ha hb hc
      go_enter Try.func24, Try.ntmps24
      go_wp2_with fail
      refine (l10Count_any _ a _ _ HL.out (Nat.le_refl _)).mono ?_
      rintro e w1 ⟨rfl, hb1⟩
      rw [HA.out]
      have HB := Lib.hid hb1
      clear hb1
      go_wp2_with fail
      refine (HQ2.out _ HB.out).mono ?_
      rintro e w2 ⟨rfl, hb2⟩
      rw [HBO.out]
      have HB2 := Lib.hid (HB.out.trans (hb2.mono HB.out.size))
      clear hb2
      go_wp2_with fail
      refine (HQ3.out _ HB2.out).mono ?_
      rintro e w3 ⟨v3, rfl, ho3, hb3⟩
      rw [HCA.out]
      have HB3 := Lib.hid (HB2.out.trans (hb3.mono HB2.out.size))
      clear hb3 ho3
      go_wp2
      go_ret3
      exact ⟨_, _, by rw [HC.out]; rfl, fun h => by rw [HC.out] at h; omega, HB3.out⟩
  · have HC : Hid (prC a b = 1) := by unfold Hid prC; rw [if_neg hok]
    cases ha : okEvs a
    all_goals cases hb : okEvs b
    case true.true => exact absurd ⟨ha, hb⟩ hok
    all_goals
      have HA := Lib.hid ha
      have HBO := Lib.hid hb
      clear hok ha hb
      go_enter Try.func24, Try.ntmps24
      go_wp2_with fail
      refine (l10Count_any _ a _ _ HL.out (Nat.le_refl _)).mono ?_
      rintro e w1 ⟨rfl, hb1⟩
      rw [HA.out]
      have HB := Lib.hid hb1
      clear hb1
      go_wp2_with fail
      refine (HQ2.out _ HB.out).mono ?_
      rintro e w2 ⟨rfl, hb2⟩
      rw [HBO.out]
      have HB2 := Lib.hid (HB.out.trans (hb2.mono HB.out.size))
      clear hb2
      go_wp2
      go_ret3
      exact ⟨_, _, by rw [HC.out]; rfl, fun h => by rw [HC.out] at h; omega, HB2.out⟩

/-- The first place where two lists of blocks differ. -/
noncomputable def fdGo : Nat → List Bk → List Bk → Int
  | k, x :: xs, y :: ys => if eqBk x y = true then fdGo (k + 1) xs ys else k
  | _, [], [] => -1
  | k, _, _ => k
theorem fd_eq {R : Int} {a b : List Bk} {k : Nat} {x y : Bk} (h : R = fdGo k (a.drop k) (b.drop k)) (hx : a[k]? = some x) (hy : b[k]? = some y) (he : eqBk x y = true) : R = fdGo (k + 1) (a.drop (k + 1)) (b.drop (k + 1)) := by
  rw [h, drop_of_get hx, drop_of_get hy, fdGo, if_pos he]
theorem fd_ne {R : Int} {a b : List Bk} {k : Nat} {x y : Bk} (h : R = fdGo k (a.drop k) (b.drop k)) (hx : a[k]? = some x) (hy : b[k]? = some y) (he : eqBk x y = false) : R = k := by
  rw [h, drop_of_get hx, drop_of_get hy, fdGo, if_neg (by simp [he])]
theorem fd_end {R : Int} {a b : List Bk} {k : Nat} (h : R = fdGo k (a.drop k) (b.drop k)) (ha : a.length ≤ k) (hb : b.length ≤ k) : R = -1 := by
  rw [h, List.drop_of_length_le ha, List.drop_of_length_le hb, fdGo]
theorem fd_a {R : Int} {a b : List Bk} {k : Nat} (h : R = fdGo k (a.drop k) (b.drop k)) (ha : a.length ≤ k) (hb : k < b.length) : R = k := by
  rw [h, List.drop_of_length_le ha, List.drop_eq_getElem_cons hb]
  rfl
theorem fd_b {R : Int} {a b : List Bk} {k : Nat} (h : R = fdGo k (a.drop k) (b.drop k)) (ha : k < a.length) (hb : b.length ≤ k) : R = k := by
  rw [h, List.drop_of_length_le hb, List.drop_eq_getElem_cons ha]
  rfl

/-- What the reference asks of two good blocks is what the program asks. -/
theorem eqBk_good {m : Nat} {x y : Bk} (hx : GoodB m x) (hy : GoodB m y) : (decide (x.b.n.toNat = y.b.n.toNat) && (decide (x.e = y.e) && eqW x.b.n.toNat x.b.w y.b.w)) = eqBk x y := by
  have ok : ∀ {z : Bk}, GoodB m z → okBr z.b = true := fun {z} hz => by
    unfold okBr
    have h1 := hz.n0
    have h2 := hz.n1
    have h3 := hz.wl
    have h4 : z.b.w.any (badL z.b.n) = false := by
      rw [List.any_eq_false]
      intro k hk
      obtain ⟨h5, h6⟩ := hz.lets k hk
      unfold badL
      simp
      omega
    simp [h1, h2, h3, h4]
  unfold eqBk eqBr
  rw [ok hx, ok hy]
  have h1 := hx.n0
  have h2 := hy.n0
  have e : decide (x.b.n.toNat = y.b.n.toNat) = decide (x.b.n = y.b.n) := by rw [Bool.eq_iff_iff]; simp; omega
  rw [e]
  cases decide (x.b.n = y.b.n) <;> cases decide (x.e = y.e) <;> simp
theorem RdBks.len_le {w : World} {B n c : Nat} {A : Option Addr} {l : List Bk} (h : RdBks w B (.slice A n c) l) : n ≤ 9223372036854775807 ∧ l.length = n := by
  obtain ⟨A', n', c', e, hn, hl, h⟩ := h
  injection e with e1 e2 e3
  subst e2
  exact ⟨hn, hl.out⟩

set_option maxHeartbeats 4000000 in
set_option maxRecDepth 100000 in
theorem difference_any (u v : Value) (a b : List Bk) (w : World) (hl : RdBks w w.heap.size u a) (hm : RdBks w w.heap.size v b) : Calls Try.prog 23 #[u, v] w fun e w' => e = .returned (.int .i64 (fdGo 0 a b)) ∧ Below w.heap.size w w' := by
  obtain ⟨A, c, rfl⟩ := RdN.shape hl
  obtain ⟨A', c', rfl⟩ := RdN.shape hm
  obtain ⟨hna, -⟩ := hl.len_le
  obtain ⟨hnb, -⟩ := hm.len_le
  have HL := Lib.hid hl
  have HM := Lib.hid hm
  generalize hR : fdGo 0 a b = R
  have HR := Lib.hid (show R = fdGo 0 (a.drop 0) (b.drop 0) by rw [← hR]; rfl)
  have HEND := Lib.hid (fun (k : Nat) (h : R = fdGo k (a.drop k) (b.drop k)) => fd_end h)
  have HA := Lib.hid (fun (k : Nat) (h : R = fdGo k (a.drop k) (b.drop k)) => fd_a h)
  have HB := Lib.hid (fun (k : Nat) (h : R = fdGo k (a.drop k) (b.drop k)) => fd_b h)
  clear hl hm hR
  generalize hn : a.length = n at *
  generalize hm : b.length = m at *
  clear hn hm
  by_cases hnm : (m : Int) < (n : Int)
  · skip
    -- the program's first difference; the smaller length is m
    go_enter Try.func23, Try.ntmps23
    go_wp2
    go_loopw [11] (fun i wr => ∃ (k : Nat), k ≤ m ∧ i = .int .i64 k ∧ Hid (R = fdGo k (a.drop k) (b.drop k)) ∧ Hid (Below w.heap.size w wr)) (fun i _ => m - (intOf i).toNat)
    case atStart => exact ⟨0, by omega, rfl, HR.out, Below.refl _ _⟩
    case round =>
      rename_i wr
      obtain ⟨k, hkn, rfl, HR1, HBB⟩ := hrel
      by_cases hlt : k < m
      · have h1 : k < n := by omega
        have h2 : k < m := by omega
        obtain ⟨bx, ox, x, A0, n0, c0, A1, n1, c1, rfl, hbx, hx, hcx, hsx, htx⟩ := (RdBks.below HL.out HBB.out).at_ h1
        obtain ⟨by_, oy, y, A2, n2, c2, A3, n3, c3, rfl, hby, hy, hcy, hsy, hty⟩ := (RdBks.below HM.out HBB.out).at_ h2
        obtain ⟨e0, e1, e2⟩ := hcx.grow3
        obtain ⟨f0, f1, f2⟩ := hcy.grow3
        have HQ := fun X => Lib.hid (implEqualBlocks_any (.agg #[.int .i64 x.b.n, .slice A0 n0 c0, .slice A1 n1 c1]) (.agg #[.int .i64 y.b.n, .slice A2 n2 c2, .slice A3 n3 c3]) x y (wgrow wr X)
          ⟨_, _, rfl, (hsx.more HBB.out.size).up (below_wgrow wr X) (below_wgrow wr X).size, ((htx.more HBB.out.size).below (below_wgrow wr X)).more (below_wgrow wr X).size⟩
          ⟨_, _, rfl, (hsy.more HBB.out.size).up (below_wgrow wr X) (below_wgrow wr X).size, ((hty.more HBB.out.size).below (below_wgrow wr X)).more (below_wgrow wr X).size⟩)
        have HBB2 := HBB
        cases he : eqBk x y
        · have HE := Lib.hid (fd_ne HR1.out hx hy he)
          rw [he] at HQ
          clear he hx hy hcx hcy hsx htx hsy hty HBB
          go_wp2
          refine wp_region_grow (by kernel_rfl) (by kernel_rfl) ?_
          repeat (go_big_quiet_step ((go_at_call 15; exact calls_grow (HQ _).out)))
          refine wpQuiet_nil ?_
          intro w1 hb1
          have HB1 := Lib.hid (HBB2.out.trans (hb1.mono HBB2.out.size))
          clear hb1
          go_wp2
          go_ret
          exact ⟨ret_int HE.out.symm, HB1.out⟩
        · have HE := Lib.hid (fd_eq HR1.out hx hy he)
          rw [he] at HQ
          clear he hx hy hcx hcy hsx htx hsy hty HBB
          go_wp2
          refine wp_region_grow (by kernel_rfl) (by kernel_rfl) ?_
          repeat (go_big_quiet_step ((go_at_call 15; exact calls_grow (HQ _).out)))
          refine wpQuiet_nil ?_
          intro w1 hb1
          have HB1 := Lib.hid (HBB2.out.trans (hb1.mono HBB2.out.size))
          clear hb1
          go_wp2
          exact ⟨⟨k + 1, by omega, by go_num, HE.out, HB1.out⟩, by simp [intOf]; omega⟩
      · have hk : k = m := by omega
        by_cases hnm2 : n = m
        · have HE := Lib.hid (HEND.out k HR1.out (by omega) (by omega))
          have hq : ((n : Int) != (m : Int)) = false := by simp; omega
          clear HR1 hk hnm2
          go_wp2
          go_ret
          exact ⟨ret_int HE.out.symm, HBB.out⟩
        · have HE : Hid (R = (m : Int)) := by
            have h1 : R = (k : Int) := by
              by_cases hk1 : k < n
              · exact HB.out k HR1.out hk1 (by omega)
              · exact HA.out k HR1.out (by omega) (by omega)
            unfold Hid
            rw [h1, hk]
          have hq : ((n : Int) != (m : Int)) = true := by simp; omega
          clear HR1 hk hnm2
          go_wp2
          go_ret
          exact ⟨ret_int HE.out.symm, HBB.out⟩
  · skip
    -- the program's first difference; the smaller length is n
    go_enter Try.func23, Try.ntmps23
    go_wp2
    go_loopw [11] (fun i wr => ∃ (k : Nat), k ≤ n ∧ i = .int .i64 k ∧ Hid (R = fdGo k (a.drop k) (b.drop k)) ∧ Hid (Below w.heap.size w wr)) (fun i _ => n - (intOf i).toNat)
    case atStart => exact ⟨0, by omega, rfl, HR.out, Below.refl _ _⟩
    case round =>
      rename_i wr
      obtain ⟨k, hkn, rfl, HR1, HBB⟩ := hrel
      by_cases hlt : k < n
      · have h1 : k < n := by omega
        have h2 : k < m := by omega
        obtain ⟨bx, ox, x, A0, n0, c0, A1, n1, c1, rfl, hbx, hx, hcx, hsx, htx⟩ := (RdBks.below HL.out HBB.out).at_ h1
        obtain ⟨by_, oy, y, A2, n2, c2, A3, n3, c3, rfl, hby, hy, hcy, hsy, hty⟩ := (RdBks.below HM.out HBB.out).at_ h2
        obtain ⟨e0, e1, e2⟩ := hcx.grow3
        obtain ⟨f0, f1, f2⟩ := hcy.grow3
        have HQ := fun X => Lib.hid (implEqualBlocks_any (.agg #[.int .i64 x.b.n, .slice A0 n0 c0, .slice A1 n1 c1]) (.agg #[.int .i64 y.b.n, .slice A2 n2 c2, .slice A3 n3 c3]) x y (wgrow wr X)
          ⟨_, _, rfl, (hsx.more HBB.out.size).up (below_wgrow wr X) (below_wgrow wr X).size, ((htx.more HBB.out.size).below (below_wgrow wr X)).more (below_wgrow wr X).size⟩
          ⟨_, _, rfl, (hsy.more HBB.out.size).up (below_wgrow wr X) (below_wgrow wr X).size, ((hty.more HBB.out.size).below (below_wgrow wr X)).more (below_wgrow wr X).size⟩)
        have HBB2 := HBB
        cases he : eqBk x y
        · have HE := Lib.hid (fd_ne HR1.out hx hy he)
          rw [he] at HQ
          clear he hx hy hcx hcy hsx htx hsy hty HBB
          go_wp2
          refine wp_region_grow (by kernel_rfl) (by kernel_rfl) ?_
          repeat (go_big_quiet_step ((go_at_call 15; exact calls_grow (HQ _).out)))
          refine wpQuiet_nil ?_
          intro w1 hb1
          have HB1 := Lib.hid (HBB2.out.trans (hb1.mono HBB2.out.size))
          clear hb1
          go_wp2
          go_ret
          exact ⟨ret_int HE.out.symm, HB1.out⟩
        · have HE := Lib.hid (fd_eq HR1.out hx hy he)
          rw [he] at HQ
          clear he hx hy hcx hcy hsx htx hsy hty HBB
          go_wp2
          refine wp_region_grow (by kernel_rfl) (by kernel_rfl) ?_
          repeat (go_big_quiet_step ((go_at_call 15; exact calls_grow (HQ _).out)))
          refine wpQuiet_nil ?_
          intro w1 hb1
          have HB1 := Lib.hid (HBB2.out.trans (hb1.mono HBB2.out.size))
          clear hb1
          go_wp2
          exact ⟨⟨k + 1, by omega, by go_num, HE.out, HB1.out⟩, by simp [intOf]; omega⟩
      · have hk : k = n := by omega
        by_cases hnm2 : n = m
        · have HE := Lib.hid (HEND.out k HR1.out (by omega) (by omega))
          have hq : ((n : Int) != (m : Int)) = false := by simp; omega
          clear HR1 hk hnm2
          go_wp2
          go_ret
          exact ⟨ret_int HE.out.symm, HBB.out⟩
        · have HE : Hid (R = (n : Int)) := by
            have h1 : R = (k : Int) := by
              by_cases hk1 : k < n
              · exact HB.out k HR1.out hk1 (by omega)
              · exact HA.out k HR1.out (by omega) (by omega)
            unfold Hid
            rw [h1, hk]
          have hq : ((n : Int) != (m : Int)) = true := by simp; omega
          clear HR1 hk hnm2
          go_wp2
          go_ret
          exact ⟨ret_int HE.out.symm, HBB.out⟩

set_option maxHeartbeats 4000000 in
set_option maxRecDepth 100000 in
theorem l13First_any (u v : Value) (a b : List Bk) (M : Nat) (ha : ∀ x ∈ a, GoodB M x) (hb : ∀ x ∈ b, GoodB M x) (w : World) (hl : RdBks w w.heap.size u a) (hm : RdBks w w.heap.size v b) : Calls Try.prog 25 #[u, v] w fun e w' => e = .returned (.int .i64 (fdGo 0 a b)) ∧ Below w.heap.size w w' := by
  obtain ⟨A, c, rfl⟩ := RdN.shape hl
  obtain ⟨A', c', rfl⟩ := RdN.shape hm
  obtain ⟨hna, -⟩ := hl.len_le
  obtain ⟨hnb, -⟩ := hm.len_le
  have HGA := Lib.hid ha
  have HGB := Lib.hid hb
  have HL := Lib.hid hl
  have HM := Lib.hid hm
  generalize hR : fdGo 0 a b = R
  have HR := Lib.hid (show R = fdGo 0 (a.drop 0) (b.drop 0) by rw [← hR]; rfl)
  have HEND := Lib.hid (fun (k : Nat) (h : R = fdGo k (a.drop k) (b.drop k)) => fd_end h)
  have HA := Lib.hid (fun (k : Nat) (h : R = fdGo k (a.drop k) (b.drop k)) => fd_a h)
  have HB := Lib.hid (fun (k : Nat) (h : R = fdGo k (a.drop k) (b.drop k)) => fd_b h)
  clear hl hm hR ha hb
  generalize hn : a.length = n at *
  generalize hm : b.length = m at *
  clear hn hm
  go_enter Try.func25, Try.ntmps25
  go_wp2
  go_loopw [5] (fun i wr => ∃ (k : Nat), k ≤ n ∧ k ≤ m ∧ i = .int .i64 k ∧ Hid (R = fdGo k (a.drop k) (b.drop k)) ∧ Hid (Below w.heap.size w wr)) (fun i _ => n - (intOf i).toNat)
  case atStart => exact ⟨0, by omega, by omega, rfl, HR.out, Below.refl _ _⟩
  case round =>
    rename_i wr
    obtain ⟨k, hkn, hkm, rfl, HR1, HBB⟩ := hrel
    by_cases hlt : k < n ∧ k < m
    · obtain ⟨h1, h2⟩ := hlt
      have h1' : ¬ (n : Int) ≤ (k : Int) := by omega
      have h2' : ¬ (m : Int) ≤ (k : Int) := by omega
      have d1 : decide ((k : Int) ≥ (n : Int)) = false := by simp; omega
      have d2 : decide ((k : Int) ≥ (m : Int)) = false := by simp; omega
      have d3 : decide (n ≤ k) = false := by simp; omega
      have d4 : decide (m ≤ k) = false := by simp; omega
      obtain ⟨bx, ox, x, A0, n0, c0, A1, n1, c1, rfl, hbx, hx, hcx, hsx, htx⟩ := (RdBks.below HL.out HBB.out).at_ h1
      obtain ⟨by_, oy, y, A2, n2, c2, A3, n3, c3, rfl, hby, hy, hcy, hsy, hty⟩ := (RdBks.below HM.out HBB.out).at_ h2
      have hgx := HGA.out x (List.mem_of_getElem? hx)
      have hgy := HGB.out y (List.mem_of_getElem? hy)
      have hmx : x.b.n = ((x.b.n.toNat : Nat) : Int) := by have := hgx.n0; omega
      have hmy : y.b.n = ((y.b.n.toNat : Nat) : Int) := by have := hgy.n0; omega
      have HQ := fun X => Lib.hid (l13Equal_any x y x.b.n.toNat y.b.n.toNat hmx hmy (by have := hgx.n1; omega) hgx.lets hgy.lets hgx.wl hgy.wl bx (ox + k * 3) by_ (oy + k * 3) (.slice A0 n0 c0) (.slice A1 n1 c1) (.slice A2 n2 c2) (.slice A3 n3 c3) (wgrow wr X)
        (by rw [← hmx]; exact hcx.grow X) (by rw [← hmy]; exact hcy.grow X) ((hsx.more HBB.out.size).up (below_wgrow wr X) (below_wgrow wr X).size) (((htx.more HBB.out.size).below (below_wgrow wr X)).more (below_wgrow wr X).size) ((hsy.more HBB.out.size).up (below_wgrow wr X) (below_wgrow wr X).size) (((hty.more HBB.out.size).below (below_wgrow wr X)).more (below_wgrow wr X).size))
      rw [eqBk_good hgx hgy] at HQ
      have HBB2 := HBB
      cases he : eqBk x y
      · have HE := Lib.hid (fd_ne HR1.out hx hy he)
        rw [he] at HQ
        clear he hx hy hcx hcy hsx htx hsy hty hgx hgy hmx hmy HBB
        go_wp2
        refine wp_region_grow (by kernel_rfl) (by kernel_rfl) ?_
        repeat (go_big_quiet_step ((go_at_call 41; exact calls_grow (HQ _).out)))
        refine wpQuiet_nil ?_
        intro w1 hb1
        have HB1 := Lib.hid (HBB2.out.trans (hb1.mono HBB2.out.size))
        clear hb1
        go_wp2
        go_ret
        exact ⟨ret_int HE.out.symm, HB1.out⟩
      · have HE := Lib.hid (fd_eq HR1.out hx hy he)
        rw [he] at HQ
        clear he hx hy hcx hcy hsx htx hsy hty hgx hgy hmx hmy HBB
        go_wp2
        refine wp_region_grow (by kernel_rfl) (by kernel_rfl) ?_
        repeat (go_big_quiet_step ((go_at_call 41; exact calls_grow (HQ _).out)))
        refine wpQuiet_nil ?_
        intro w1 hb1
        have HB1 := Lib.hid (HBB2.out.trans (hb1.mono HBB2.out.size))
        clear hb1
        go_wp2
        exact ⟨⟨k + 1, by omega, by omega, by go_num, HE.out, HB1.out⟩, by simp [intOf]; omega⟩
    · by_cases h1 : k < n
      · have h2 : m ≤ k := by omega
        have HE := Lib.hid (HB.out k HR1.out h1 h2)
        have d1 : decide (n ≤ k) = false := by simp; omega
        have d2 : decide (m ≤ k) = true := by simp; omega
        have h2' : ¬ (k : Int) < (m : Int) := by omega
        clear hlt HR1
        go_wp2
        go_quiet (fail)
        go_wp2
        go_ret
        exact ⟨ret_int HE.out.symm, below_drewN HBB.out nq⟩
      · by_cases h2 : k < m
        · have HE := Lib.hid (HA.out k HR1.out (by omega) h2)
          have d1 : decide (n ≤ k) = true := by simp; omega
          have h1' : ¬ (k : Int) < (n : Int) := by omega
          clear hlt HR1
          go_wp2
          go_quiet (fail)
          go_wp2
          go_ret
          exact ⟨ret_int HE.out.symm, below_drewN HBB.out nq⟩
        · have HE := Lib.hid (HEND.out k HR1.out (by omega) (by omega))
          clear hlt HR1
          go_wp2
          go_ret
          exact ⟨ret_int HE.out.symm, HBB.out⟩

end Go.Proofs.Ytiampiakhkpcbaa

/-
  SameFabric and FirstDifference at the top, of the program and of the reference.
-/
namespace Go.Proofs.Ytiampiakhkpcbaa
set_option linter.unusedVariables false
set_option linter.unusedSimpArgs false
open Go.RowKit

noncomputable def fdL (a b : List Ev) : Int := fdGo 0 (bksL a) (bksL b)
noncomputable def sfB (a b : List Ev) : Bool := decide (prC a b = 0) && decide (fdL a b < 0)
noncomputable def fdV (a b : List Ev) : Int := if prC a b = 0 then (if fdL a b < 0 then 0 else fdL a b) else 0
noncomputable def fdC (a b : List Ev) : Int := if prC a b = 0 then (if fdL a b < 0 then 3 else 0) else prC a b

noncomputable def sfval (a b : List Ev) : Value := .tuple #[.bool (sfB a b), .int .i64 (prC a b)]
noncomputable def fdval (a b : List Ev) : Value := .tuple #[.int .i64 (fdV a b), .int .i64 (fdC a b)]
theorem sf_neg {a b : List Ev} (hc : prC a b = 0) (hd : fdL a b < 0) : sfval a b = .tuple #[.bool true, .int .i64 0] := by simp [sfval, sfB, hc, hd]
theorem sf_pos {a b : List Ev} (hc : prC a b = 0) (hd : ¬ fdL a b < 0) : sfval a b = .tuple #[.bool false, .int .i64 0] := by
  have : decide (fdL a b < 0) = false := by simpa using hd
  simp [sfval, sfB, hc, this]
theorem sf_no {a b : List Ev} (hc : prC a b ≠ 0) : sfval a b = .tuple #[.bool false, .int .i64 (prC a b)] := by simp [sfval, sfB, hc]
theorem fd_neg {a b : List Ev} (hc : prC a b = 0) (hd : fdL a b < 0) : fdval a b = .tuple #[.int .i64 0, .int .i64 3] := by simp [fdval, fdV, fdC, hc, hd]
theorem fd_pos {a b : List Ev} (hc : prC a b = 0) (hd : ¬ fdL a b < 0) : fdval a b = .tuple #[.int .i64 (fdL a b), .int .i64 0] := by
  unfold fdval fdV fdC
  rw [if_pos hc, if_neg hd, if_pos hc, if_neg hd]
theorem fd_no {a b : List Ev} (hc : prC a b ≠ 0) : fdval a b = .tuple #[.int .i64 0, .int .i64 (prC a b)] := by simp [fdval, fdV, fdC, hc]

-- two lists of events, their blocks, the first place where they differ
set_option maxHeartbeats 4000000 in
set_option maxRecDepth 100000 in
theorem implSameFab_any (u v : Value) (a b : List Ev) (w : World) (hl : RdE w w.heap.size u a) (hm : RdE w w.heap.size v b) : Calls Try.prog 7 #[u, v] w fun e w' => e = .returned (sfval a b) ∧ Below w.heap.size w w' := by
  have HQ := Lib.hid (blockPair_any u v a b w hl hm)
  clear hl hm
  rcases prC_cases a b with hc | hc
  · have HG := Lib.hid (show (∀ x ∈ bksL a, GoodB 2000 x) ∧ (∀ x ∈ bksL b, GoodB 2000 x) from ⟨(good_of (prC_good hc).1.1 (prC_good hc).1.2).1, (good_of (prC_good hc).2.1 (prC_good hc).2.2).1⟩)
    by_cases hd : fdL a b < 0
    · have HV := Lib.hid (sf_neg hc hd)
      have HC := Lib.hid hc
      have hd' : fdGo 0 (bksL a) (bksL b) < 0 := hd
      clear hc hd
      generalize hz : fdGo 0 (bksL a) (bksL b) = z at *
      have HZ := Lib.hid hz
      clear hz
      go_enter Try.func7, Try.ntmps7
      go_wp2_with fail
      refine HQ.out.mono ?_
      rintro e w1 ⟨x, y, rfl, hr, hb1⟩
      rw [HC.out] at hr ⊢
      obtain ⟨h1, h2⟩ := hr rfl
      have H1 := Lib.hid h1
      have H2 := Lib.hid h2
      have HB := Lib.hid hb1
      clear hb1 hr h1 h2
      go_wp2_with fail
      refine (difference_any _ _ _ _ _ H1.out H2.out).mono ?_
      rintro e w2 ⟨rfl, hb2⟩
      rw [HZ.out]
      have HB2 := Lib.hid (HB.out.trans (hb2.mono HB.out.size))
      clear hb2
      go_wp2
      go_ret2
      exact ⟨by rw [HV.out]; rfl, HB2.out⟩
    · have HV := Lib.hid (sf_pos hc hd)
      have HC := Lib.hid hc
      have hd' : ¬ fdGo 0 (bksL a) (bksL b) < 0 := hd
      have HF := Lib.hid (show fdL a b = fdGo 0 (bksL a) (bksL b) from rfl)
      clear hc hd
      generalize hz : fdGo 0 (bksL a) (bksL b) = z at *
      have HZ := Lib.hid hz
      clear hz
      go_enter Try.func7, Try.ntmps7
      go_wp2_with fail
      refine HQ.out.mono ?_
      rintro e w1 ⟨x, y, rfl, hr, hb1⟩
      rw [HC.out] at hr ⊢
      obtain ⟨h1, h2⟩ := hr rfl
      have H1 := Lib.hid h1
      have H2 := Lib.hid h2
      have HB := Lib.hid hb1
      clear hb1 hr h1 h2
      go_wp2_with fail
      refine (difference_any _ _ _ _ _ H1.out H2.out).mono ?_
      rintro e w2 ⟨rfl, hb2⟩
      rw [HZ.out]
      have HB2 := Lib.hid (HB.out.trans (hb2.mono HB.out.size))
      clear hb2
      go_wp2
      go_ret2
      refine ⟨?_, HB2.out⟩
      have e : decide (z < 0) = false := by simp; omega
      rw [HV.out]
      (try rw [HF.out])
      first | rfl | (show Ending.returned (.tuple #[.bool (decide (z < 0)), .int .i64 0]) = _; rw [e])
  · have HV := Lib.hid (sf_no (a := a) (b := b) (by rcases hc with h | h <;> omega))
    rcases hc with hc | hc
    all_goals
      have HC := Lib.hid hc
      clear hc
      go_enter Try.func7, Try.ntmps7
      go_wp2_with fail
      refine HQ.out.mono ?_
      rintro e w1 ⟨x, y, rfl, hr, hb1⟩
      have HB := Lib.hid hb1
      clear hb1 hr
      rw [HC.out]
      go_wp2
      go_ret2
      exact ⟨by rw [HV.out, HC.out]; rfl, HB.out⟩
-- two lists of events, their blocks, the first place where they differ
set_option maxHeartbeats 4000000 in
set_option maxRecDepth 100000 in
theorem specSameFab_any (u v : Value) (a b : List Ev) (w : World) (hl : RdE w w.heap.size u a) (hm : RdE w w.heap.size v b) : Calls Try.prog 8 #[u, v] w fun e w' => e = .returned (sfval a b) ∧ Below w.heap.size w w' := by
  have HQ := Lib.hid (l13Both_any u v a b w hl hm)
  clear hl hm
  rcases prC_cases a b with hc | hc
  · have HG := Lib.hid (show (∀ x ∈ bksL a, GoodB 2000 x) ∧ (∀ x ∈ bksL b, GoodB 2000 x) from ⟨(good_of (prC_good hc).1.1 (prC_good hc).1.2).1, (good_of (prC_good hc).2.1 (prC_good hc).2.2).1⟩)
    by_cases hd : fdL a b < 0
    · have HV := Lib.hid (sf_neg hc hd)
      have HC := Lib.hid hc
      have hd' : fdGo 0 (bksL a) (bksL b) < 0 := hd
      clear hc hd
      generalize hz : fdGo 0 (bksL a) (bksL b) = z at *
      have HZ := Lib.hid hz
      clear hz
      go_enter Try.func8, Try.ntmps8
      go_wp2_with fail
      refine HQ.out.mono ?_
      rintro e w1 ⟨x, y, rfl, hr, hb1⟩
      rw [HC.out] at hr ⊢
      obtain ⟨h1, h2⟩ := hr rfl
      have H1 := Lib.hid h1
      have H2 := Lib.hid h2
      have HB := Lib.hid hb1
      clear hb1 hr h1 h2
      go_wp2_with fail
      refine (l13First_any _ _ _ _ 2000 HG.out.1 HG.out.2 _ H1.out H2.out).mono ?_
      rintro e w2 ⟨rfl, hb2⟩
      rw [HZ.out]
      have HB2 := Lib.hid (HB.out.trans (hb2.mono HB.out.size))
      clear hb2
      go_wp2
      go_ret2
      exact ⟨by rw [HV.out]; rfl, HB2.out⟩
    · have HV := Lib.hid (sf_pos hc hd)
      have HC := Lib.hid hc
      have hd' : ¬ fdGo 0 (bksL a) (bksL b) < 0 := hd
      have HF := Lib.hid (show fdL a b = fdGo 0 (bksL a) (bksL b) from rfl)
      clear hc hd
      generalize hz : fdGo 0 (bksL a) (bksL b) = z at *
      have HZ := Lib.hid hz
      clear hz
      go_enter Try.func8, Try.ntmps8
      go_wp2_with fail
      refine HQ.out.mono ?_
      rintro e w1 ⟨x, y, rfl, hr, hb1⟩
      rw [HC.out] at hr ⊢
      obtain ⟨h1, h2⟩ := hr rfl
      have H1 := Lib.hid h1
      have H2 := Lib.hid h2
      have HB := Lib.hid hb1
      clear hb1 hr h1 h2
      go_wp2_with fail
      refine (l13First_any _ _ _ _ 2000 HG.out.1 HG.out.2 _ H1.out H2.out).mono ?_
      rintro e w2 ⟨rfl, hb2⟩
      rw [HZ.out]
      have HB2 := Lib.hid (HB.out.trans (hb2.mono HB.out.size))
      clear hb2
      go_wp2
      go_ret2
      refine ⟨?_, HB2.out⟩
      have e : decide (z < 0) = false := by simp; omega
      rw [HV.out]
      (try rw [HF.out])
      first | rfl | (show Ending.returned (.tuple #[.bool (decide (z < 0)), .int .i64 0]) = _; rw [e])
  · have HV := Lib.hid (sf_no (a := a) (b := b) (by rcases hc with h | h <;> omega))
    rcases hc with hc | hc
    all_goals
      have HC := Lib.hid hc
      clear hc
      go_enter Try.func8, Try.ntmps8
      go_wp2_with fail
      refine HQ.out.mono ?_
      rintro e w1 ⟨x, y, rfl, hr, hb1⟩
      have HB := Lib.hid hb1
      clear hb1 hr
      rw [HC.out]
      go_wp2
      go_ret2
      exact ⟨by rw [HV.out, HC.out]; rfl, HB.out⟩
-- two lists of events, their blocks, the first place where they differ
set_option maxHeartbeats 4000000 in
set_option maxRecDepth 100000 in
theorem implFirstFab_any (u v : Value) (a b : List Ev) (w : World) (hl : RdE w w.heap.size u a) (hm : RdE w w.heap.size v b) : Calls Try.prog 10 #[u, v] w fun e w' => e = .returned (fdval a b) ∧ Below w.heap.size w w' := by
  have HQ := Lib.hid (blockPair_any u v a b w hl hm)
  clear hl hm
  rcases prC_cases a b with hc | hc
  · have HG := Lib.hid (show (∀ x ∈ bksL a, GoodB 2000 x) ∧ (∀ x ∈ bksL b, GoodB 2000 x) from ⟨(good_of (prC_good hc).1.1 (prC_good hc).1.2).1, (good_of (prC_good hc).2.1 (prC_good hc).2.2).1⟩)
    by_cases hd : fdL a b < 0
    · have HV := Lib.hid (fd_neg hc hd)
      have HC := Lib.hid hc
      have hd' : fdGo 0 (bksL a) (bksL b) < 0 := hd
      clear hc hd
      generalize hz : fdGo 0 (bksL a) (bksL b) = z at *
      have HZ := Lib.hid hz
      clear hz
      go_enter Try.func10, Try.ntmps10
      go_wp2_with fail
      refine HQ.out.mono ?_
      rintro e w1 ⟨x, y, rfl, hr, hb1⟩
      rw [HC.out] at hr ⊢
      obtain ⟨h1, h2⟩ := hr rfl
      have H1 := Lib.hid h1
      have H2 := Lib.hid h2
      have HB := Lib.hid hb1
      clear hb1 hr h1 h2
      go_wp2_with fail
      refine (difference_any _ _ _ _ _ H1.out H2.out).mono ?_
      rintro e w2 ⟨rfl, hb2⟩
      rw [HZ.out]
      have HB2 := Lib.hid (HB.out.trans (hb2.mono HB.out.size))
      clear hb2
      go_wp2
      go_ret2
      exact ⟨by rw [HV.out]; rfl, HB2.out⟩
    · have HV := Lib.hid (fd_pos hc hd)
      have HC := Lib.hid hc
      have hd' : ¬ fdGo 0 (bksL a) (bksL b) < 0 := hd
      have HF := Lib.hid (show fdL a b = fdGo 0 (bksL a) (bksL b) from rfl)
      clear hc hd
      generalize hz : fdGo 0 (bksL a) (bksL b) = z at *
      have HZ := Lib.hid hz
      clear hz
      go_enter Try.func10, Try.ntmps10
      go_wp2_with fail
      refine HQ.out.mono ?_
      rintro e w1 ⟨x, y, rfl, hr, hb1⟩
      rw [HC.out] at hr ⊢
      obtain ⟨h1, h2⟩ := hr rfl
      have H1 := Lib.hid h1
      have H2 := Lib.hid h2
      have HB := Lib.hid hb1
      clear hb1 hr h1 h2
      go_wp2_with fail
      refine (difference_any _ _ _ _ _ H1.out H2.out).mono ?_
      rintro e w2 ⟨rfl, hb2⟩
      rw [HZ.out]
      have HB2 := Lib.hid (HB.out.trans (hb2.mono HB.out.size))
      clear hb2
      go_wp2
      go_ret2
      refine ⟨?_, HB2.out⟩
      have e : decide (z < 0) = false := by simp; omega
      rw [HV.out]
      (try rw [HF.out])
      first | rfl | (show Ending.returned (.tuple #[.bool (decide (z < 0)), .int .i64 0]) = _; rw [e])
  · have HV := Lib.hid (fd_no (a := a) (b := b) (by rcases hc with h | h <;> omega))
    rcases hc with hc | hc
    all_goals
      have HC := Lib.hid hc
      clear hc
      go_enter Try.func10, Try.ntmps10
      go_wp2_with fail
      refine HQ.out.mono ?_
      rintro e w1 ⟨x, y, rfl, hr, hb1⟩
      have HB := Lib.hid hb1
      clear hb1 hr
      rw [HC.out]
      go_wp2
      go_ret2
      exact ⟨by rw [HV.out, HC.out]; rfl, HB.out⟩

end Go.Proofs.Ytiampiakhkpcbaa

/-
  Events whose braids are changed by relations: their blocks, and the blocks of the events of blocks (plain).
-/
namespace Go.Proofs.Ytiampiakhkpcbaa
set_option linter.unusedVariables false
set_option linter.unusedSimpArgs false
open Go.RowKit

/-! ### Words -/
theorem redS_rel {n : Nat} {w : List Int} {x : Int} (hx : Ltr n x) : Rel n (w ++ [x]) (redS w x) := by
  unfold redS
  split
  · rename_i h
    obtain ⟨ys, rfl⟩ := List.getLast?_eq_some_iff.1 h
    have h1 := (Rel.canc hx.neg).left ys
    rw [List.dropLast_concat, List.append_assoc]
    simpa using h1
  · exact .refl _
theorem redF_rel {n : Nat} : ∀ (l w : List Int), LetsN n l → Rel n (w ++ l) (l.foldl redS w)
  | [], w, _ => by simp; exact .refl _
  | x :: l, w, hl => by
    have h1 := (redS_rel (w := w) (hl x (by simp))).right l
    rw [List.append_assoc] at h1
    exact h1.trans (redF_rel l (redS w x) fun y hy => hl y (List.mem_cons_of_mem _ hy))
theorem red_nfw {n : Nat} {w : List Int} (h : LetsN n w) : nfw n w = nfw n (red w) := (redF_rel w [] h).nfw (by simpa using h)
theorem bkGo_cross {n : Int} {o : List Bk} : ∀ (u r : List Ev) (w : List Int), (∀ e ∈ u, e.k = 1) → bkGo n w o (u ++ r) = bkGo n ((u.map letX).foldl redS w) o r
  | [], r, w, _ => rfl
  | e :: u, r, w, h => by
    show bkGo n w o (e :: (u ++ r)) = _
    rw [bkGo, if_pos (h e (by simp)), bkGo_cross u r _ fun x hx => h x (List.mem_cons_of_mem _ hx)]
    rfl
theorem foldl_red {w : List Int} (h : red w = w) : w.foldl redS [] = w := h

/-! ### Blocks up to the words of their braids -/
noncomputable def keyB (x : Bk) : Int × List Ev × St := (x.b.n, x.e, nfw x.b.n.toNat x.b.w)
theorem addE_key {o o' : List Bk} (e : Ev) (h : o.map keyB = o'.map keyB) : (addE o e).map keyB = (addE o' e).map keyB := by
  have hl : o.length = o'.length := by simpa using congrArg List.length h
  apply List.ext_getElem?
  intro k
  have hk := congrArg (fun l => l[k]?) h
  simp only [List.getElem?_map] at hk ⊢
  rw [addE_get, addE_get, hl]
  split
  · rw [Option.map_map, Option.map_map]
    rcases h1 : o[k]? with _ | x <;> rcases h2 : o'[k]? with _ | y <;> rw [h1, h2] at hk
    · exact absurd hk (by simp)
    · exact absurd hk (by simp)
    · unfold keyB at hk
      simp only [Option.map_some, Option.some.injEq, Prod.mk.injEq] at hk
      obtain ⟨q1, q2, q3⟩ := hk
      simp only [Option.map_some, Function.comp, Option.some.injEq]
      unfold keyB
      simp only [Prod.mk.injEq]
      exact ⟨q1, by rw [q2], q3⟩
  · exact hk
theorem clB_key {n : Int} {w w' : List Int} {o o' p p' : List Bk} (hw : nfw n.toNat w = nfw n.toNat w') (h : o.map keyB = o'.map keyB) (hp : clB n w o = some p) (hp' : clB n w' o' = some p') : p.map keyB = p'.map keyB := by
  unfold clB at hp hp'
  have he : eqW n.toNat w [] = eqW n.toNat w' [] := by rw [Bool.eq_iff_iff, eqW_iff, eqW_iff, hw]
  rw [he] at hp
  split at hp
  · cases hp
  split at hp'
  · cases hp'
  split at hp
  · rename_i he1
    rw [if_pos he1] at hp'
    injection hp with hp
    injection hp' with hp'
    rw [← hp, ← hp']; exact h
  · rename_i he1
    rw [if_neg he1] at hp'
    injection hp with hp
    injection hp' with hp'
    rw [← hp, ← hp', List.map_append, List.map_append, h]
    simp [keyB, hw]
theorem ChE.key {n : Int} {a b : List Ev} (h : ChE n a b) : ∀ {o o' p p' : List Bk}, 0 ≤ n → n ≤ 12 → (cntE n a).isSome = true → o.map keyB = o'.map keyB → bkGo n [] o a = some p → bkGo n [] o' b = some p' → p.map keyB = p'.map keyB := by
  induction h with
  | @fin n u w hu h =>
    intro o o' p p' h0 h1 hc ho hp hp'
    obtain ⟨h2, h3⟩ := cnt_cross h1 u [] hu (by simpa using hc)
    have q1 := bkGo_cross (n := n) (o := o) u [] [] hu
    have q2 := bkGo_cross (n := n) (o := o') (letsE w) [] [] (letsE_k w)
    rw [List.append_nil] at q1 q2
    rw [q1, bkGo] at hp
    rw [q2, bkGo, letsE_letX (h.lets.1 h2)] at hp'
    exact clB_key ((red_nfw h2).symm.trans ((h.nfw h2).trans (red_nfw (h.lets.1 h2)))) ho hp hp'
  | @step n u a b w e hu h he t ih =>
    intro o o' p p' h0 h1 hc ho hp hp'
    obtain ⟨h2, h3⟩ := cnt_cross h1 u (e :: a) hu hc
    rw [h3] at hc
    obtain ⟨hv, ha, hc'⟩ := cnt_at (l := e :: a) (k := 0) (x := e) (by simpa using hc) rfl
    rw [bkGo_cross u _ _ hu, bkGo, if_neg he] at hp
    rw [bkGo_cross (letsE w) _ _ (letsE_k w), letsE_letX (h.lets.1 h2), bkGo, if_neg he] at hp'
    split at hp
    · cases hp
    split at hp'
    · cases hp'
    rename_i o1 ho1 _ o2 ho2
    exact ih (aft_bounds h0 h1 hv).1 ha (by simpa using hc') (addE_key e (clB_key ((red_nfw h2).symm.trans ((h.nfw h2).trans (red_nfw (h.lets.1 h2)))) ho ho1 ho2)) hp hp'

/-! ### The events of the blocks of events -/
theorem evsB_app (a b : List Bk) : evsB (a ++ b) = evsB a ++ evsB b := by simp [evsB]
theorem modify_last {α : Type} (o : List α) (y : α) (f : α → α) : (o ++ [y]).modify ((o ++ [y]).length - 1) f = o ++ [f y] := by
  rw [List.length_append, List.length_singleton, Nat.add_sub_cancel]
  induction o with
  | nil => rfl
  | cons x o ih => simp [ih]
theorem addE_snoc (o : List Bk) (y : Bk) (e : Ev) : addE (o ++ [y]) e = o ++ [⟨y.b, y.e ++ [e]⟩] := modify_last o y _
theorem addE_ne {o : List Bk} (h : o ≠ []) (e : Ev) : addE o e ≠ [] := fun h2 => by
  have := congrArg List.length h2
  rw [addE_len] at this
  exact h (List.eq_nil_of_length_eq_zero this)
theorem evsB_addE {o : List Bk} (h : o ≠ []) (e : Ev) : evsB (addE o e) = evsB o ++ [e] := by
  rcases nil_or_snoc o with rfl | ⟨ys, y, rfl⟩
  · exact absurd rfl h
  · rw [addE_snoc, evsB_app, evsB_app]
    simp [evsB, bkE]
theorem stB_addE {o : List Bk} (h : o ≠ []) (e : Ev) : (addE o e).flatMap (·.e) = o.flatMap (·.e) ++ [e] := by
  rcases nil_or_snoc o with rfl | ⟨ys, y, rfl⟩
  · exact absurd rfl h
  · rw [addE_snoc]
    simp
theorem clB_cases {n : Int} {w : List Int} {o p : List Bk} (h : clB n w o = some p) : p = o ∨ (eqW n.toNat w [] = false ∧ w.length ≤ 40 ∧ p = o ++ [⟨⟨n, w⟩, []⟩]) := by
  unfold clB at h
  split at h
  · cases h
  split at h
  · injection h with h; exact .inl h.symm
  · rename_i h1 h2
    injection h with h
    exact .inr ⟨by simpa using h2, by omega, h.symm⟩
/-- The events of the blocks have these blocks; they are as valid, and no more. -/
theorem evs_go : ∀ (l : List Ev) (n : Int) (w : List Int) (o p : List Bk), 0 ≤ n → n ≤ 12 → (cntE n l).isSome = true → LetsN n.toNat w → red w = w → o ≠ [] → bkGo n w o l = some p →
    ∃ l', evsB p = evsB o ++ l' ∧ bkGo n [] o l' = some p ∧ l'.length ≤ w.length + l.length ∧ cntE n l' = cntE n l
  | [], n, w, o, p, h0, h1, hc, hw, hr, ho, h => by
    rw [bkGo] at h
    rcases clB_cases h with rfl | ⟨h2, h3, rfl⟩
    · exact ⟨[], by simp, by rw [bkGo, clB_nil], by simp, rfl⟩
    · refine ⟨letsE w, by simp [evsB, bkE], ?_, by simp [letsE], by have := cnt_letsE h0 h1 w [] hw; simpa using this⟩
      have q := bkGo_cross (n := n) (o := o) (letsE w) [] [] (letsE_k w)
      rw [List.append_nil, letsE_letX hw, foldl_red hr] at q
      rw [q, bkGo]; exact h
  | e :: l, n, w, o, p, h0, h1, hc, hw, hr, ho, h => by
    obtain ⟨hv, ha, hc'⟩ := cnt_at (l := e :: l) (k := 0) (x := e) (by simpa using hc) rfl
    have hcc : cntE n (e :: l) = cntE (aftE n e) l := by rw [cntE, if_pos ⟨hv, ha⟩]
    simp only [Nat.zero_add, List.drop_succ_cons, List.drop_zero] at hc'
    rw [bkGo] at h
    split at h
    · rename_i hk
      have hx := (letE_ltr h1 hv hk).1
      have e1 := aft_cross (n := n) hk
      rw [e1] at hc' hcc
      obtain ⟨l', q1, q2, q3, q4⟩ := evs_go l n (redS w (letX e)) o p h0 h1 hc' (hw.redS hx) (red_step hr _).2 ho h
      exact ⟨l', q1, q2, by have := redS_len w (letX e); simp only [List.length_cons]; omega, by rw [q4, hcc]⟩
    · rename_i hk
      split at h
      · cases h
      rename_i o1 ho1
      have h2 := (aft_bounds h0 h1 hv).1
      rcases clB_cases ho1 with rfl | ⟨h3, h4, rfl⟩
      · obtain ⟨l', q1, q2, q3, q4⟩ := evs_go l _ [] _ p h2 ha hc' (LetsN.nil _) rfl (addE_ne ho e) h
        rw [evsB_addE ho] at q1
        refine ⟨e :: l', by rw [q1]; simp, ?_, by simp at q3 ⊢; omega, ?_⟩
        · rw [bkGo, if_neg hk, clB_nil]; exact q2
        · rw [cntE, if_pos ⟨hv, ha⟩, hcc]; exact q4
      · obtain ⟨l', q1, q2, q3, q4⟩ := evs_go l _ [] _ p h2 ha hc' (LetsN.nil _) rfl (addE_ne (by simp) e) h
        rw [evsB_addE (by simp), evsB_app] at q1
        refine ⟨letsE w ++ e :: l', by rw [q1]; simp [evsB, bkE], ?_, by simp [letsE] at q3 ⊢; omega, ?_⟩
        · rw [bkGo_cross (letsE w) _ _ (letsE_k w), letsE_letX hw, foldl_red hr, bkGo, if_neg hk, ho1]
          exact q2
        · rw [cnt_letsE h0 h1 w _ hw, cntE, if_pos ⟨hv, ha⟩, hcc]; exact q4
/-- The blocks of the events of the blocks of events. -/
theorem evs_bks {l : List Ev} {p : List Bk} (h : okEvs l = true) (hp : bkO l = some p) : okEvs (evsB p) = true ∧ bkO (evsB p) = some p ∧ (evsB p).length ≤ l.length := by
  obtain ⟨h1, h2⟩ := okEvs_cnt' h
  rw [List.drop_zero] at h1
  unfold bkO at hp
  split at hp
  · cases hp
  rename_i p' hp'
  split at hp
  · rename_i hl
    injection hp with hp
    subst hp
    obtain ⟨l', q1, q2, q3, q4⟩ := evs_go l 0 [] _ p' (by decide) (by decide) h1 (LetsN.nil _) rfl (by simp) hp'
    have e0 : evsB p' = l' := by rw [q1]; simp [evsB, bkE, letsE]
    rw [e0]
    simp at q3
    refine ⟨?_, ?_, q3⟩
    · unfold okEvs
      rw [q4, h1]
      simp; omega
    · unfold bkO
      rw [q2]
      exact if_pos hl
  · cases hp
/-- The stitches of the blocks are those of the events. -/
theorem st_go : ∀ (l : List Ev) (n : Int) (w : List Int) (o p : List Bk), o ≠ [] → bkGo n w o l = some p → p.flatMap (·.e) = o.flatMap (·.e) ++ l.filter (fun e => decide (e.k ≠ 1))
  | [], n, w, o, p, ho, h => by
    rw [bkGo] at h
    rcases clB_cases h with rfl | ⟨_, _, rfl⟩ <;> simp
  | e :: l, n, w, o, p, ho, h => by
    rw [bkGo] at h
    split at h
    · rename_i hk
      rw [st_go l _ _ _ _ ho h]
      simp [hk]
    · rename_i hk
      split at h
      · cases h
      rename_i o1 ho1
      rcases clB_cases ho1 with rfl | ⟨_, _, rfl⟩
      · rw [st_go l _ _ _ _ (addE_ne ho e) h, stB_addE ho]
        simp [hk]
      · rw [st_go l _ _ _ _ (addE_ne (by simp) e) h, stB_addE (by simp)]
        simp [hk]
theorem st_bks {l : List Ev} {p : List Bk} (hp : bkO l = some p) : p.flatMap (·.e) = l.filter (fun e => decide (e.k ≠ 1)) := by
  unfold bkO at hp
  split at hp
  · cases hp
  rename_i p' hp'
  split at hp
  · injection hp with hp
    subst hp
    simpa using st_go l 0 [] _ p' (by simp) hp'
  · cases hp

/-! ### Comparing -/
theorem key_eq {m m' : Nat} {x y : Bk} (hx : GoodB m x) (hy : GoodB m' y) (h : keyB x = keyB y) : eqBk x y = true := by
  have hx' := hx.more (m' := max m m') (Nat.le_max_left _ _)
  have hy' := hy.more (m' := max m m') (Nat.le_max_right _ _)
  unfold keyB at h
  injection h with h1 h2
  injection h2 with h2 h3
  rw [← eqBk_good hx' hy']
  rw [← h1] at h3
  simp [h1, h2]
  rw [← h1]
  exact eqW_iff.2 h3
theorem fd_key {m m' : Nat} : ∀ (a b : List Bk) (k : Nat), (∀ x ∈ a, GoodB m x) → (∀ x ∈ b, GoodB m' x) → a.map keyB = b.map keyB → fdGo k a b = -1
  | [], [], k, _, _, _ => by rw [fdGo]
  | [], y :: b, k, _, _, h => by simp at h
  | x :: a, [], k, _, _, h => by simp at h
  | x :: a, y :: b, k, ha, hb, h => by
    rw [List.map_cons, List.map_cons] at h
    injection h with h1 h2
    rw [fdGo, if_pos (key_eq (ha x (by simp)) (hb y (by simp)) h1)]
    exact fd_key a b (k + 1) (fun z hz => ha z (List.mem_cons_of_mem _ hz)) (fun z hz => hb z (List.mem_cons_of_mem _ hz)) h2
theorem fd_same : ∀ (a b : List Bk) (k : Nat), fdGo k a b < 0 → a.flatMap (·.e) = b.flatMap (·.e)
  | [], [], k, _ => rfl
  | [], y :: b, k, h => by rw [fdGo] at h; all_goals first | omega | simp
  | x :: a, [], k, h => by rw [fdGo] at h; all_goals first | omega | simp
  | x :: a, y :: b, k, h => by
    rw [fdGo] at h
    split at h
    · rename_i he
      unfold eqBk at he
      simp at he
      rw [List.flatMap_cons, List.flatMap_cons, he.2, fd_same a b (k + 1) h]
    · omega
theorem fd_lt : ∀ (a b : List Bk) (k : Nat), a.length = b.length → 0 ≤ fdGo k a b → fdGo k a b < (k + a.length : Nat)
  | [], [], k, _, h => by rw [fdGo] at h; omega
  | [], y :: b, k, h, _ => by simp at h
  | x :: a, [], k, h, _ => by simp at h
  | x :: a, y :: b, k, h, h0 => by
    rw [fdGo] at h0 ⊢
    simp only [List.length_cons] at h ⊢
    split
    · rename_i he
      rw [if_pos he] at h0
      have := fd_lt a b (k + 1) (by omega) h0
      omega
    · omega
theorem bksC_some {l : List Ev} (h : bksC l = 0) : ∃ p, bkO l = some p ∧ bksL l = p := by
  cases hp : bkO l with
  | none => rw [(bks_none hp).2] at h; omega
  | some p => exact ⟨p, rfl, (bks_some hp).1⟩
theorem bkO_go {l : List Ev} {p : List Bk} (h : bkO l = some p) : bkGo 0 [] [⟨⟨0, []⟩, []⟩] l = some p := by
  unfold bkO at h
  split at h
  · cases h
  rename_i p' hp'
  split at h
  · injection h with h
    subst h; exact hp'
  · cases h
/-- Changed braids: the same fabric. -/
theorem ch_same {a b : List Ev} (h : ChE 0 a b) (hc : prC a b = 0) : (bksL a).map keyB = (bksL b).map keyB ∧ fdL a b = -1 := by
  obtain ⟨⟨ha, hca⟩, hb, hcb⟩ := prC_good hc
  obtain ⟨p, hp, rfl⟩ := bksC_some hca
  obtain ⟨q, hq, rfl⟩ := bksC_some hcb
  have h1 := (okEvs_cnt' ha).1
  rw [List.drop_zero] at h1
  have hk := h.key (by decide) (by decide) h1 rfl (bkO_go hp) (bkO_go hq)
  exact ⟨hk, fd_key _ _ 0 (good_bks ha hp).1 (good_bks hb hq).1 hk⟩
/-- Reducing. -/
theorem red_same {a b : List Ev} (hk : (bksL a).map keyB = (bksL b).map keyB) (hc : prC a b = 0) : okEvs (evsB (bksL b)) = true ∧ bksC (evsB (bksL b)) = 0 ∧ bksL (evsB (bksL b)) = bksL b ∧ (evsB (bksL b)).length ≤ b.length ∧ prC a (evsB (bksL b)) = 0 ∧ fdL a (evsB (bksL b)) = -1 := by
  obtain ⟨⟨ha, hca⟩, hb, hcb⟩ := prC_good hc
  obtain ⟨p, hp, hpl⟩ := bksC_some hca
  obtain ⟨q, hq, hql⟩ := bksC_some hcb
  obtain ⟨h1, h2, h3⟩ := evs_bks hb hq
  rw [hql] at hk ⊢
  rw [hpl] at hk
  obtain ⟨e1, e2⟩ := bks_some h2
  refine ⟨h1, e2, e1, h3, ?_, ?_⟩
  · unfold prC
    rw [if_pos ⟨ha, h1⟩, if_pos hca, e2]
  · unfold fdL
    rw [e1, hpl]
    exact fd_key _ _ 0 (good_bks ha hp).1 (good_bks hb hq).1 hk

/-! ### A stitch on the other bed -/
theorem cnt_set {e : Ev} (hv : ∀ n, valE n e = true → valE n { e with b := 3 - e.b } = true) (ha : ∀ n, aftE n { e with b := 3 - e.b } = aftE n e) : ∀ (l : List Ev) (n : Int) (i : Nat), l[i]? = some e → (cntE n l).isSome = true → cntE n (l.set i { e with b := 3 - e.b }) = cntE n l
  | [], n, i, h, _ => by simp at h
  | x :: l, n, 0, h, hc => by
    simp at h
    subst h
    obtain ⟨h1, h2, h3⟩ := cnt_at (l := x :: l) (k := 0) (x := x) (by simpa using hc) rfl
    rw [List.set_cons_zero, cntE, cntE, if_pos ⟨hv n h1, by rw [ha]; exact h2⟩, if_pos ⟨h1, h2⟩, ha]
  | x :: l, n, i + 1, h, hc => by
    obtain ⟨h1, h2, h3⟩ := cnt_at (l := x :: l) (k := 0) (x := x) (by simpa using hc) rfl
    rw [List.set_cons_succ, cntE, cntE, if_pos ⟨h1, h2⟩, if_pos ⟨h1, h2⟩]
    exact cnt_set hv ha l _ i (by simpa using h) (by simpa using h3)
theorem addE_b (o : List Bk) (e : Ev) : (addE o e).map (·.b) = o.map (·.b) := by
  apply List.ext_getElem?
  intro k
  simp only [List.getElem?_map]
  rw [addE_get]
  split
  · rw [Option.map_map]
    rfl
  · rfl
theorem clB_b {n : Int} {w : List Int} {o o' : List Bk} (h : o.map (·.b) = o'.map (·.b)) : (clB n w o).map (List.map (·.b)) = (clB n w o').map (List.map (·.b)) := by
  unfold clB
  split
  · rfl
  split
  · simp [h]
  · simp [h]
theorem go_set {e e' : Ev} (hk : e.k ≠ 1) (hk' : e'.k ≠ 1) (ha : ∀ n, aftE n e' = aftE n e) : ∀ (l : List Ev) (n : Int) (w : List Int) (o o' : List Bk) (i : Nat), o.map (·.b) = o'.map (·.b) → (l[i]? = some e ∨ l.length ≤ i) → (bkGo n w o' (l.set i e')).map (List.map (·.b)) = (bkGo n w o l).map (List.map (·.b))
  | [], n, w, o, o', i, h, _ => by
    rw [List.set_nil, bkGo, bkGo]
    exact clB_b h.symm
  | x :: l, n, w, o, o', 0, h, hx => by
    simp at hx
    subst hx
    rw [List.set_cons_zero, bkGo, bkGo, if_neg hk', if_neg hk]
    have h1 := clB_b (n := n) (w := w) h
    rcases h2 : clB n w o with _ | p1 <;> rcases h3 : clB n w o' with _ | p2 <;> rw [h2, h3] at h1 <;> simp at h1
    · have h4 := go_set hk hk' ha l (aftE n x) [] (addE p1 x) (addE p2 e') l.length (by rw [addE_b, addE_b]; exact h1) (.inr (Nat.le_refl _))
      rw [List.set_eq_of_length_le (Nat.le_refl _)] at h4
      simp only [ha]
      exact h4
  | x :: l, n, w, o, o', i + 1, h, hx => by
    have hx' : l[i]? = some e ∨ l.length ≤ i := by simpa using hx
    rw [List.set_cons_succ, bkGo, bkGo]
    split
    · exact go_set hk hk' ha l n _ o o' i h hx'
    · have h1 := clB_b (n := n) (w := w) h
      rcases h2 : clB n w o with _ | p1 <;> rcases h3 : clB n w o' with _ | p2 <;> rw [h2, h3] at h1 <;> simp at h1
      · exact go_set hk hk' ha l _ [] (addE p1 x) (addE p2 x) i (by rw [addE_b, addE_b]; exact h1) hx'
theorem bed_val {e : Ev} (hk : e.k = 2) (n : Int) (h : valE n e = true) : valE n { e with b := 3 - e.b } = true := by
  unfold valE at *
  simp [hk, stit3, bedB] at h ⊢
  obtain ⟨h1, h2, h3, h4, h5⟩ := h
  exact ⟨h1, h2, h3, by omega, h5⟩
theorem bed_aft {e : Ev} (hk : e.k = 2) (n : Int) : aftE n { e with b := 3 - e.b } = aftE n e := by simp [aftE, hk]
theorem filter_set {P : Ev → Bool} {e e' : Ev} (he : P e = true) (he' : P e' = true) (hne : e' ≠ e) : ∀ (l : List Ev) (i : Nat), l[i]? = some e → (l.set i e').filter P ≠ l.filter P
  | [], i, h => by simp at h
  | x :: l, 0, h => by
    simp at h
    subst h
    rw [List.set_cons_zero, List.filter_cons_of_pos he', List.filter_cons_of_pos he]
    intro h2
    injection h2 with h2 _
    exact hne h2
  | x :: l, i + 1, h => by
    rw [List.set_cons_succ]
    have h1 := filter_set he he' hne l i (by simpa using h)
    by_cases hx : P x = true
    · rw [List.filter_cons_of_pos hx, List.filter_cons_of_pos hx]
      intro h2
      injection h2 with _ h2
      exact h1 h2
    · rw [List.filter_cons_of_neg hx, List.filter_cons_of_neg hx]
      exact h1
/-- A knitted stitch on the other bed is found. -/
theorem bed_found {a b : List Ev} (hk : (bksL a).map keyB = (bksL b).map keyB) (hc : prC a b = 0) {i : Nat} {e : Ev} (he : b[i]? = some e) (hk2 : e.k = 2) (hb1 : fdL a b = -1) :
    okEvs (b.set i { e with b := 3 - e.b }) = true ∧ bksC (b.set i { e with b := 3 - e.b }) = 0 ∧ prC a (b.set i { e with b := 3 - e.b }) = 0 ∧ prC (b.set i { e with b := 3 - e.b }) a = 0 ∧ 0 ≤ fdL a (b.set i { e with b := 3 - e.b }) ∧ 0 ≤ fdL (b.set i { e with b := 3 - e.b }) a ∧ fdL (b.set i { e with b := 3 - e.b }) a < (bksL a).length := by
  obtain ⟨⟨ha, hca⟩, hb, hcb⟩ := prC_good hc
  obtain ⟨p, hp, hpl⟩ := bksC_some hca
  obtain ⟨q, hq, hql⟩ := bksC_some hcb
  obtain ⟨h1, h2⟩ := okEvs_cnt' hb
  rw [List.drop_zero] at h1
  have hx1 : okEvs (b.set i { e with b := 3 - e.b }) = true := by
    unfold okEvs
    rw [cnt_set (bed_val hk2) (bed_aft hk2) b 0 i he h1, h1]
    simp; omega
  have hg := go_set (e := e) (e' := { e with b := 3 - e.b }) (by omega) (by show e.k ≠ 1; omega) (bed_aft hk2) b 0 [] [⟨⟨0, []⟩, []⟩] [⟨⟨0, []⟩, []⟩] i rfl (.inl he)
  rw [bkO_go hq] at hg
  obtain ⟨q', hq1, hq2⟩ := Option.map_eq_some_iff.1 hg
  have hlen : q'.length = q.length := by simpa using congrArg List.length hq2
  have hql60 : q.length ≤ 60 := (good_bks hb hq).2
  have hq3 : bkO (b.set i { e with b := 3 - e.b }) = some q' := by
    unfold bkO
    rw [hq1]
    exact if_pos (by omega)
  obtain ⟨e1, e2⟩ := bks_some hq3
  have hpq : p.length = q.length := by
    rw [hpl, hql] at hk
    simpa using congrArg List.length hk
  have hne : p.flatMap (·.e) ≠ q'.flatMap (·.e) := by
    intro h
    have h3 := fd_same (bksL a) (bksL b) 0 (by show fdL a b < 0; omega)
    rw [hpl, hql] at h3
    rw [h3, st_bks hq, st_bks hq3] at h
    exact filter_set (P := fun e => decide (e.k ≠ 1)) (by simp; omega) (by simp; omega) (fun h => by
      have h4 := congrArg Ev.b h
      simp at h4
      omega) b i he h.symm
  refine ⟨hx1, e2, ?_, ?_, ?_, ?_, ?_⟩
  · unfold prC; rw [if_pos ⟨ha, hx1⟩, if_pos hca, e2]
  · unfold prC; rw [if_pos ⟨hx1, ha⟩, if_pos e2, hca]
  · unfold fdL
    rw [e1, hpl]
    rcases Int.lt_or_le (fdGo 0 p q') 0 with h | h
    · exact absurd (fd_same _ _ _ h) hne
    · exact h
  · unfold fdL
    rw [e1, hpl]
    rcases Int.lt_or_le (fdGo 0 q' p) 0 with h | h
    · exact absurd (fd_same _ _ _ h).symm hne
    · exact h
  · unfold fdL
    rw [e1, hpl]
    have h0 : 0 ≤ fdGo 0 q' p := by
      rcases Int.lt_or_le (fdGo 0 q' p) 0 with h | h
      · exact absurd (fd_same _ _ _ h).symm hne
      · exact h
    have := fd_lt q' p 0 (by omega) h0
    omega

end Go.Proofs.Ytiampiakhkpcbaa
