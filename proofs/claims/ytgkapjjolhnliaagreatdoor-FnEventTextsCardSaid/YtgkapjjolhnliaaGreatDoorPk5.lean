/-
  Texts joined: EbB.
-/
import Derived.Test.YtgkapjjolhnliaaGreatDoorPk4
/-
  A draw of braids: l03Draw, E8Braids.
-/
namespace Go.Proofs.YtgkapjjolhnliaaGreatDoor
set_option linter.unusedVariables false
set_option linter.unusedSimpArgs false
open Go.RowKit

/-- A braid that was drawn. -/
def DrawnBr (w : World) (g : Nat) (K : Int) (e : Ending) (w' : World) : Prop := ∃ (v : Value) (b : Br), e = .returned v ∧ OwBr w' w.heap.size w'.heap.size v b ∧ okBr b = true ∧ b.w.length ≤ 8 ∧ Src w' g K ∧ Only g (g + 1) w w'
theorem okBr_of {n : Int} {l : List Int} (h0 : 0 ≤ n) (h1 : n ≤ 12) (hl : l.length ≤ 40) (hw : WordR n l) : okBr ⟨n, l⟩ = true := by
  unfold okBr
  simp only [Bool.and_eq_true, decide_eq_true_eq, Bool.not_eq_true']
  refine ⟨⟨h0, h1⟩, hl, ?_⟩
  rw [List.any_eq_false]
  intro x hx
  obtain ⟨a, b, c⟩ := hw x hx
  unfold badL
  simp
  refine ⟨a, ?_, ?_⟩
  · show 1 - n ≤ x; omega
  · show x ≤ n - 1; omega
theorem okBr_n {b : Br} (h : okBr b = true) : 0 ≤ b.n ∧ b.n ≤ 12 := by
  unfold okBr at h
  simp only [Bool.and_eq_true, decide_eq_true_eq] at h
  obtain ⟨⟨h1, h2⟩, -⟩ := h
  exact ⟨h1, h2⟩
theorem among_box {W : World} {gs b : Nat} {K : Int} {l : List Int} (hS : Src W gs K) (hK : K + 2 ≤ 1000000000) (hb : Bx W b (vI l)) (hne : b ≠ gs) (h0 : 0 < l.length) (h1 : l.length ≤ 100) :
    Calls Tryz.prog 45 #[.pointer (some ⟨gs, 0, none⟩), .slice (some ⟨b, 0, none⟩) l.length l.length] W (Drawn W gs (K + 2) fun x => x ∈ l) := by
  refine among_any W gs l _ K hS hK ⟨some ⟨b, 0, none⟩, l.length, l.length, rfl, by omega, rfl, fun k hk => ?_⟩ (fun A n c e _ => ?_) h0
  · have h2 := hb.1 k (.int .i64 l[k]) (by simp [vI, hk])
    exact ⟨b, 0, l[k], rfl, hb.2.2, List.getElem?_eq_getElem hk, h2⟩
  · injection e with e1 _ _
    exact ⟨b, 0, e1.symm, hne⟩
set_option maxHeartbeats 8000000 in
set_option maxRecDepth 100000 in
theorem l03Draw_any {w : World} {gs : Nat} {K : Int} (hS : Src w gs K) (hK : K + 36 ≤ 1000000000) :
    Calls Tryz.prog 24 #[.pointer (some ⟨gs, 0, none⟩), .int .i64 8] w (DrawnBr w gs (K + 36)) := by
  have hgs := hS.lt
  have HS := Lib.hid hS
  have HR0 := Lib.hid (Bx.new w [.int .i64 0, .slice none 0 0] 33)
  have HS1 := Lib.hid ((hS.alloc (.cells #[.int .i64 0, .slice none 0 0] 33)).alloc (.cells (vI [2, 3, 3, 4, 4, 5, 1, 0]).toArray 2))
  have HO1 := Lib.hid (((Only.refl gs (gs + 1) w).alloc (.cells #[.int .i64 0, .slice none 0 0] 33)).alloc (.cells (vI [2, 3, 3, 4, 4, 5, 1, 0]).toArray 2))
  have HB1 := Lib.hid (Bx.new (w.alloc (.cells #[.int .i64 0, .slice none 0 0] 33)) (vI [2, 3, 3, 4, 4, 5, 1, 0]) 2)
  have HR1 := Lib.hid (HR0.out.alloc (.cells (vI [2, 3, 3, 4, 4, 5, 1, 0]).toArray 2))
  clear hS
  go_enter Tryz.func24, Tryz.ntmps24
  go_wp2_with fail
  have hA := among_box (l := [2, 3, 3, 4, 4, 5, 1, 0]) HS1.out (by omega) HB1.out (by simp; omega) (by decide) (by decide)
  rw [World.size_alloc] at hA
  refine hA.mono ?_
  rintro e w2 ⟨n, rfl, hn, hs2, ho2⟩
  have hn0 : 0 ≤ n ∧ n ≤ 5 := by
    simp at hn
    omega
  obtain ⟨hn1, hn2⟩ := hn0
  have S2 := Lib.hid hs2
  have O2 := Lib.hid (HO1.out.trans ho2)
  have R2 := Lib.hid (HR1.out.only ho2 (by omega))
  clear hn hs2 ho2 hA HS1 HO1 HB1 HR1 HR0
  go_wp2_with fail
  refine (l03DrawWord_any (n := n) (most := 8) S2.out hn1 (by omega) (by omega) (by omega) (by omega)).mono ?_
  rintro e w3 ⟨v, l, rfl, hown, hwd, hl8, hs3, ho3⟩
  obtain ⟨A, c, rfl⟩ := own_shape hown
  have S3 := Lib.hid hs3
  have R3 := Lib.hid (R2.out.only ho3 (by omega))
  have O3 := Lib.hid (O2.out.trans ho3)
  have HW := Lib.hid (OwC.of_own hown)
  have HL := Lib.hid (okBr_of hn1 (by omega) (by omega) hwd)
  have hsz := O2.out.size
  clear hs3 ho3 hown hwd
  obtain ⟨r0, r1⟩ := R3.out.two
  have rf := R3.out.2.1
  go_wp2_with fail
  refine bodyPost_ret (v := .agg #[.int .i64 n, .slice A l.length c]) (by simp [results, Tryz.results24, go_sem, r0, r1, World.cell?_setCell_other]) rfl ?_
  have hlt := R3.out.2.2
  refine ⟨_, ⟨n, l⟩, rfl, ⟨_, rfl, ?_⟩, HL.out, (show l.length ≤ 8 by omega), ((S3.out.setNew hgs 0 _).setNew hgs 1 _).more (by omega) hK, (O3.out.setNew (Nat.le_refl _) 0 _).setNew (Nat.le_refl _) 1 _⟩
  have h9 := HW.out.keep (w' := (w3.setCell ⟨w.heap.size, 0, none⟩ (.int .i64 n)).setCell ⟨w.heap.size, 1, none⟩ (.slice A l.length c)) (fun g h1 h2 => by
    have h3 : g ≠ w.heap.size := by have := R2.out.2.2; omega
    rw [Below.heap_setCell _ _ _ _ (by exact h3), Below.heap_setCell _ _ _ _ (by exact h3)])
  exact h9.wide hsz (by simp)
/-- Two braids that a law draws. -/
def DrawnB2 (w : World) (e : Ending) (w' : World) : Prop := ∃ (va vb : Value) (a b : Br), e = .returned (.tuple #[va, vb]) ∧ RdBr w' w'.heap.size va a ∧ RdBr w' w'.heap.size vb b ∧ okBr a = true ∧ a.w.length ≤ 8 ∧ Below w.heap.size w w'
theorem e8_fin {w W5 w6 : World} {lo c c2 : Nat} {n : Int} {l l2 : List Int} {A A2 : Option Addr} (B4 : Below w.heap.size w W5) (ho : Only (w.heap.size + 2) (w.heap.size + 2 + 1) W5 w6) (hlo : w.heap.size + 2 < lo) (hlh : lo ≤ W5.heap.size)
    (how : OwC W5 lo W5.heap.size 2 1 (.slice A l.length c) l.length (vI l)) (hown2 : w6.ownsRow W5.heap.size 2 1 (.slice A2 l2.length c2) l2.length (vI l2)) (hok : okBr ⟨n, l⟩ = true) (hl8 : l.length ≤ 8) :
    DrawnB2 w (.returned (.tuple #[.agg #[.int .i64 n, .slice A l.length c], .agg #[.int .i64 n, .slice A2 l2.length c2]])) ((((w6.setCell ⟨w.heap.size, 0, none⟩ (.int .i64 n)).setCell ⟨w.heap.size, 1, none⟩ (.slice A l.length c)).setCell ⟨w.heap.size + 1, 0, none⟩ (.int .i64 n)).setCell ⟨w.heap.size + 1, 1, none⟩ (.slice A2 l2.length c2)) := by
  have hk : ∀ g, lo ≤ g → ((((w6.setCell ⟨w.heap.size, 0, none⟩ (.int .i64 n)).setCell ⟨w.heap.size, 1, none⟩ (.slice A l.length c)).setCell ⟨w.heap.size + 1, 0, none⟩ (.int .i64 n)).setCell ⟨w.heap.size + 1, 1, none⟩ (.slice A2 l2.length c2)).heap[g]? = w6.heap[g]? := fun g hg => by
    have h3 : g ≠ w.heap.size := by omega
    have h4 : g ≠ w.heap.size + 1 := by omega
    rw [Below.heap_setCell _ _ _ _ (by exact h4), Below.heap_setCell _ _ _ _ (by exact h4), Below.heap_setCell _ _ _ _ (by exact h3), Below.heap_setCell _ _ _ _ (by exact h3)]
  have hs1 := ho.size
  have a1 := ((how.only ho (.inr (by omega)) (Nat.le_refl _)).keep (fun g h1 _ => hk g h1)).wide (Nat.le_refl _) hs1
  have a2 := (OwC.of_own hown2).keep (fun g h1 _ => hk g (Nat.le_trans hlh h1))
  refine ⟨_, _, ⟨n, l⟩, ⟨n, l2⟩, rfl, ⟨_, rfl, ?_⟩, ⟨_, rfl, ?_⟩, hok, hl8, ?_⟩
  · have := RdI.of_own a1
    simpa using this
  · have := RdI.of_own a2
    simpa using this
  · have b1 := B4.trans (ho.below (by omega) (Nat.le_trans (by omega) hlh))
    exact (((b1.setCell (p := ⟨w.heap.size, 0, none⟩) (Nat.le_refl _) _).setCell (p := ⟨w.heap.size, 1, none⟩) (Nat.le_refl _) _).setCell (p := ⟨w.heap.size + 1, 0, none⟩) (Nat.le_succ _) _).setCell (p := ⟨w.heap.size + 1, 1, none⟩) (Nat.le_succ _) _
set_option maxHeartbeats 8000000 in
set_option maxRecDepth 100000 in
theorem e8Braids_any (w : World) (v0 : Value) (h : RdB w w.heap.size v0) : Calls Tryz.prog 8 #[v0] w (DrawnB2 w) := by
  have hb2 := (((Below.refl w.heap.size w).alloc (Nat.le_refl _) (.cells #[.int .i64 0, .slice none 0 0] 33)).alloc (by simp) (.cells #[.int .i64 0, .slice none 0 0] 33))
  have HB := Lib.hid (h.up hb2)
  have H2 := Lib.hid hb2
  have HR2 := Lib.hid ((Bx.new w [.int .i64 0, .slice none 0 0] 33).alloc (.cells #[.int .i64 0, .slice none 0 0] 33))
  have HR3 := Lib.hid (Bx.new (w.alloc (.cells #[.int .i64 0, .slice none 0 0] 33)) [.int .i64 0, .slice none 0 0] 33)
  rw [World.size_alloc] at HR3
  clear hb2 h
  go_enter Tryz.func8, Tryz.ntmps8
  go_wp2_with fail
  refine (l00From_any _ v0 HB.out).mono ?_
  rintro e w1 ⟨rfl, hs1, hb1, hz1⟩
  have hgs : ((w.alloc (.cells #[.int .i64 0, .slice none 0 0] 33)).alloc (.cells #[.int .i64 0, .slice none 0 0] 33)).heap.size = w.heap.size + 2 := by simp
  rw [hgs] at hs1
  simp only [hgs]
  have R2 := Lib.hid (HR2.out.below hb1 (by rw [hgs]; omega))
  have R3 := Lib.hid (HR3.out.below hb1 (by rw [hgs]; omega))
  have B1 := Lib.hid (H2.out.trans (hb1.mono (by rw [hgs]; omega)))
  have S1 := Lib.hid hs1
  clear hs1 hb1 hz1 HB H2 HR2 HR3 hgs
  go_wp2_with fail
  refine (l03Draw_any S1.out (by omega)).mono ?_
  rintro e w4 ⟨v, ⟨n, l⟩, rfl, ⟨s, rfl, how⟩, hok, hl8, hs4, ho4⟩
  have hsz := B1.out.size
  have hgl := S1.out.lt
  obtain ⟨A, c, rfl⟩ : ∃ A c, s = .slice A l.length c := by
    obtain ⟨A, c, e, _⟩ := how.cells
    exact ⟨A, c, e⟩
  have Q2 := Lib.hid ((R2.out.only ho4 (by omega)).alloc (.cells #[.int .i64 n, .slice A l.length c] 33))
  have Q3 := Lib.hid ((R3.out.only ho4 (by omega)).alloc (.cells #[.int .i64 n, .slice A l.length c] 33))
  have Q5 := Lib.hid (Bx.new w4 [.int .i64 n, .slice A l.length c] 33)
  have S4 := Lib.hid (hs4.alloc (.cells #[.int .i64 n, .slice A l.length c] 33))
  have B4 := Lib.hid ((B1.out.trans (ho4.below (by omega) (by omega))).alloc (by have := ho4.size; omega) (.cells #[.int .i64 n, .slice A l.length c] 33))
  have HOW := Lib.hid (how.below (Below.refl w4.heap.size w4 |>.alloc (Nat.le_refl _) (.cells #[.int .i64 n, .slice A l.length c] 33)))
  have HOK := Lib.hid hok
  have hgs5 : w.heap.size + 2 < w4.heap.size := by have := ho4.size; omega
  have hn01 : 0 ≤ n ∧ n ≤ 12 := by
    have h9 := okBr_n hok
    exact h9
  obtain ⟨hn0, hn1⟩ := hn01
  have hsz5 : w4.heap.size < (w4.alloc (.cells #[.int .i64 n, .slice A l.length c] 33)).heap.size := by simp
  have hlh : w1.heap.size ≤ (w4.alloc (.cells #[.int .i64 n, .slice A l.length c] 33)).heap.size := by have := ho4.size; simp; omega
  replace HOW := Lib.hid (HOW.out.wide (Nat.le_refl _) (Nat.le_of_lt hsz5))
  clear hs4 ho4 hok how R2 R3 B1 S1
  go_upto_region 3 with fail
  generalize w4.alloc (.cells #[.int .i64 n, .slice A l.length c] 33) = W5 at *
  generalize w4.heap.size = g5 at *
  obtain ⟨f0, f1⟩ := Q5.out.two
  go_region_with (go_at_call 25; refine (l03DrawWord_any (n := n) (most := 8) (gs := w.heap.size + 2) S4.out.drew hn0 hn1 (by omega) (by omega) (by omega)).mono ?_; rintro e w6 ⟨v2, l2, rfl, hown2, hwd2, hl28, hs6, ho6⟩; obtain ⟨A2, c2, rfl⟩ := own_shape hown2; obtain ⟨f0', f1'⟩ := (Q5.out.drew.only ho6 (by omega)).two; obtain ⟨z0, z1⟩ := (Q2.out.drew.only ho6 (by omega)).two; have zf := (Q2.out.drew.only ho6 (by omega)).2.1; obtain ⟨y0, y1⟩ := (Q3.out.drew.only ho6 (by omega)).two; have yf := (Q3.out.drew.only ho6 (by omega)).2.1)
  all_goals
    have HF := Lib.hid (e8_fin (n := n) B4.out.drew ho6 hgl hlh HOW.out hown2 HOK.out hl8)
    go_wp2_with fail
    refine bodyPost_ret (v := .tuple #[.agg #[.int .i64 n, .slice A l.length c], .agg #[.int .i64 n, .slice A2 l2.length c2]]) (by simp [results, Tryz.results8, go_sem, z0, z1, y0, y1, World.cell?_setCell_other]) rfl HF.out

end Go.Proofs.YtgkapjjolhnliaaGreatDoor
