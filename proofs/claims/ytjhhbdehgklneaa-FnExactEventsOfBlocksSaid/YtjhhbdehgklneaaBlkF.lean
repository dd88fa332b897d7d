/-
  EventsOfBlocks of the program and of the reference.
-/
import Derived.Test.YtjhhbdehgklneaaBlkE
namespace Go.Proofs.Ytjhhbdehgklneaa
set_option linter.unusedVariables false
set_option linter.unusedSimpArgs false
open Go.RowKit

/-- The events of blocks. -/
def bkE (x : Bk) : List Ev := letsE x.b.w ++ x.e
def evsB (l : List Bk) : List Ev := l.flatMap bkE
/-- Blocks whose events can be listed. -/
structure FitEB (l : List Bk) : Prop where
  len : l.length ≤ 2100
  all : ∀ x ∈ l, Lets x.b.w ∧ x.b.w.length ≤ 40 ∧ x.e.length ≤ 2000
theorem evs_snoc {Y acc : List Ev} {l : List Bk} {k : Nat} {x : Bk} (h : Y = acc ++ evsB (l.drop k)) (hx : l[k]? = some x) : Y = (acc ++ letsE x.b.w) ++ x.e ++ evsB (l.drop (k + 1)) := by
  rw [h, drop_of_get hx]
  simp [evsB, bkE]
theorem vE_append (a b : List Ev) : vE (a ++ b) = vE a ++ vE b := by simp [vS]
theorem vE_one' (l : List Ev) : ∀ u ∈ vE l, u.oneCell' = true := by
  intro u hu
  unfold vE vS at hu
  rw [List.mem_flatMap] at hu
  obtain ⟨x, _, hx⟩ := hu
  simp at hx
  rcases hx with rfl | rfl | rfl | rfl | rfl | rfl <;> rfl
theorem letsE_len (l : List Int) : (letsE l).length = l.length := by simp [letsE]

set_option maxHeartbeats 4000000 in
set_option maxRecDepth 100000 in
theorem l13Events_any (v : Value) (l : List Bk) (w : World) (hl : RdBks w w.heap.size v l) (hf : FitEB l) :
    Calls Try.prog 46 #[v] w (GivesOw w 51 6 (evsB l).length (vE (evsB l))) := by
  obtain ⟨A, cp, rfl⟩ := RdN.shape hl
  obtain ⟨i0, hi, hy0, hy1, hy2⟩ := info_parts info_ev
  have hlen := hf.len
  have HF := Lib.hid hf.all
  clear hf
  have HL := Lib.hid hl
  clear hl
  generalize hln : l.length = n at *
  have HLN := Lib.hid hln
  clear hln
  generalize hY : evsB l = Y
  have HY := Lib.hid (show Y = [] ++ evsB (l.drop 0) by rw [← hY]; rfl)
  clear hY
  go_enter Try.func46, Try.ntmps46
  go_wp2
  go_loopw [3, 4] (fun t i wr => ∃ (k : Nat) (acc : List Ev), k ≤ n ∧ i = .int .i64 k ∧ wr.ownsRow w.heap.size 51 6 t acc.length (vE acc) ∧ acc.length ≤ k * 2040 ∧ Hid (Y = acc ++ evsB (l.drop k)) ∧ Below w.heap.size w wr) (fun _ i _ => n - (intOf i).toNat)
  case atStart => exact ⟨0, [], Nat.zero_le _, rfl, World.ownsRow_lit _ _ _ (Nat.le_refl _) (by unfold maxLen; omega) rfl, Nat.le_refl _, HY.out, (Below.refl _ _).alloc (Nat.le_refl _) _⟩
  case round =>
    rename_i wr
    obtain ⟨k, acc, hk, rfl, hown, hak, hd, hb⟩ := hrel
    by_cases hlt : k < n
    · obtain ⟨b, off, x, A0, c0, A1, c1, rfl, hbb, hlk, hc, hs, ht⟩ := (RdBks.below HL.out hb).at2 hlt
      obtain ⟨e0, e1, e2⟩ := hc.three
      have hsz := hb.size
      obtain ⟨f1, f2, f3⟩ := HF.out x (List.mem_of_getElem? hlk)
      have HF1 := Lib.hid f1
      have HB := Lib.hid hb
      have HD := Lib.hid (evs_snoc hd.out hlk)
      have HS := Lib.hid hs
      have HT := Lib.hid (ht.reads Ev.len (by decide)).1
      have HC := Lib.hid hc
      have HO := Lib.hid hown
      have HLL := Lib.hid (letsE_len x.b.w)
      clear hb hlk hc hs ht f1 hown
      go_wp2_with fail
      refine (l10Letters_any _ x.b.w _ (HS.out.more hsz) HF1.out (by omega)).mono ?_
      rintro e w1 ⟨v1, rfl, ho1, hb1⟩
      obtain ⟨A2, c2, rfl, -⟩ := ho1.cells
      have HR1 := Lib.hid ((RdS.of_own Ev.len ho1).reads Ev.len (by decide)).1
      have HO1 := Lib.hid (own_below HO.out hb1)
      have HB1 := Lib.hid (HB.out.trans (hb1.mono hsz))
      have hz1 := hb1.size
      have hll : (letsE x.b.w).length ≤ 40 := by have := HLL.out; omega
      clear hb1 ho1 e0 e1 e2
      go_wp2_with (at_builtin; refine wpList_append_any _ rfl _ _ _ rfl w.heap.size 51 i0 _ 6 48 Try.underlying29 hi hy0 hy1 hy2 rfl (by decide) _ _ _ rfl HO1.out w1.heap.size A2 (letsE x.b.w).length c2 (vE (letsE x.b.w)) rfl HR1.out (vE_one' _) (by unfold maxLen; omega) (by omega) HB1.out.size ?_)
      intro v2 w2 hown2 hg2 hat2
      have HB2 := Lib.hid (HB1.out.grown hg2 HB1.out.size (fun kk hkk => (HO1.out.lt kk hkk).1))
      have HO2 : Hid (w2.ownsRow w.heap.size 51 6 v2 (acc ++ letsE x.b.w).length (vE (acc ++ letsE x.b.w))) := by unfold Hid; rw [List.length_append, vE_append]; exact hown2
      obtain ⟨e0, e1, e2⟩ := (CellsAt.keep HC.out (fun o => ((HB2.out.cell (p := ⟨b, o, none⟩) hbb).trans (HB.out.cell (p := ⟨b, o, none⟩) hbb).symm))).three
      have HT2 := Lib.hid (show Reads w2 w.heap.size 6 A1 x.e.length (vE x.e) from HT.out.keep fun p hp => (HB2.out.cell hp).trans (HB.out.cell hp).symm)
      clear hown2 hg2 hat2 HO1 HR1
      go_wp2_with (at_builtin; refine wpList_append_any _ rfl _ _ _ rfl w.heap.size 51 i0 _ 6 48 Try.underlying29 hi hy0 hy1 hy2 rfl (by decide) _ _ _ rfl HO2.out w.heap.size A1 x.e.length c1 (vE x.e) rfl HT2.out (vE_one' _) (by rw [List.length_append]; unfold maxLen; omega) (by rw [List.length_append]; omega) HB2.out.size ?_)
      intro v3 w3 hown3 hg3 hat3
      have HB3 := Lib.hid (HB2.out.grown hg3 HB2.out.size (fun kk hkk => (HO2.out.lt kk hkk).1))
      have HO3 : Hid (w3.ownsRow w.heap.size 51 6 v3 (acc ++ letsE x.b.w ++ x.e).length (vE (acc ++ letsE x.b.w ++ x.e))) := by unfold Hid; rw [List.length_append, vE_append, List.length_append]; exact hown3
      clear hown3 hg3 hat3 e0 e1 e2
      go_wp2
      exact ⟨⟨k + 1, acc ++ letsE x.b.w ++ x.e, by omega, by go_num, HO3.out, by rw [List.length_append, List.length_append]; omega, HD.out, HB3.out⟩, by simp [intOf]; omega⟩
    · have HB := Lib.hid hb
      have HO := Lib.hid hown
      have HD := Lib.hid (show Y = acc by rw [hd.out, List.drop_of_length_le (by have := HLN.out; omega)]; simp [evsB])
      clear hb hown hd
      go_wp2
      go_ret
      exact ⟨_, rfl, by rw [HD.out]; exact OwC.of_own HO.out, HB.out⟩

set_option maxHeartbeats 4000000 in
set_option maxRecDepth 100000 in
theorem eventsOf_any (v : Value) (l : List Bk) (w : World) (hl : RdBks w w.heap.size v l) (hf : FitEB l) :
    Calls Try.prog 48 #[v] w (GivesOw w 51 6 (evsB l).length (vE (evsB l))) := by
  obtain ⟨A, cp, rfl⟩ := RdN.shape hl
  obtain ⟨i0, hi, hy0, hy1, hy2⟩ := info_parts info_ev
  have hlen := hf.len
  have HF := Lib.hid hf.all
  clear hf
  have HL := Lib.hid hl
  clear hl
  generalize hln : l.length = n at *
  have HLN := Lib.hid hln
  clear hln
  generalize hY : evsB l = Y
  have HY := Lib.hid (show Y = [] ++ evsB (l.drop 0) by rw [← hY]; rfl)
  clear hY
  go_enter Try.func48, Try.ntmps48
  go_wp2
  go_loopw [3, 9] (fun t i wr => ∃ (k : Nat) (acc : List Ev), k ≤ n ∧ i = .int .i64 k ∧ wr.ownsRow w.heap.size 51 6 t acc.length (vE acc) ∧ acc.length ≤ k * 2040 ∧ Hid (Y = acc ++ evsB (l.drop k)) ∧ Below w.heap.size w wr) (fun _ i _ => n - (intOf i).toNat)
  case atStart => exact ⟨0, [], Nat.zero_le _, rfl, World.ownsRow_lit _ _ _ (Nat.le_refl _) (by unfold maxLen; omega) rfl, Nat.le_refl _, HY.out, (Below.refl _ _).alloc (Nat.le_refl _) _⟩
  case round =>
    rename_i wr
    obtain ⟨k, acc, hk, rfl, hown, hak, hd, hb⟩ := hrel
    by_cases hlt : k < n
    · obtain ⟨b, off, x, A0, c0, A1, c1, rfl, hbb, hlk, hc, hs, ht⟩ := (RdBks.below HL.out hb).at2 hlt
      obtain ⟨e0, e1, e2⟩ := hc.three
      have hsz := hb.size
      obtain ⟨f1, f2, f3⟩ := HF.out x (List.mem_of_getElem? hlk)
      have HF1 := Lib.hid f1
      have HB := Lib.hid hb
      have HD := Lib.hid (evs_snoc hd.out hlk)
      have HS := Lib.hid hs
      have HT := Lib.hid (ht.reads Ev.len (by decide)).1
      have HC := Lib.hid (CellsAt.of_alloc (w := wr) (us := [.int .i64 x.b.n, .slice A0 x.b.w.length c0, .slice A1 x.e.length c1]) (t := 66))
      have HO := Lib.hid hown
      have HLL := Lib.hid (letsE_len x.b.w)
      have HBA := Lib.hid (show Below w.heap.size w (wr.alloc (.cells #[.int .i64 x.b.n, .slice A0 x.b.w.length c0, .slice A1 x.e.length c1] 66)) from HB.out.alloc hsz _)
      clear hb hlk hc hs ht f1 hown
      go_wp2_with fail
      refine (wordEvents_any _ x.b.w _ (HS.out.up ((Below.refl _ _).alloc hsz _) (by simp; omega)) HF1.out (by omega)).mono ?_
      rintro e w1 ⟨v1, rfl, ho1, hb1⟩
      obtain ⟨A2, c2, rfl, -⟩ := ho1.cells
      have HR1 := Lib.hid ((RdS.of_own Ev.len ho1).reads Ev.len (by decide)).1
      have HO1 := Lib.hid (own_below (HO.out.alloc _) hb1)
      have HB1 := Lib.hid (HBA.out.trans (hb1.mono (by simp; omega)))
      have hz1 : wr.heap.size < w1.heap.size := by have := hb1.size; simp at this; omega
      have HY1 := Lib.hid (HC.out.below hb1 (by simp))
      have hll : (letsE x.b.w).length ≤ 40 := by have := HLL.out; omega
      have hrow := Lib.hid (fun kk hkk => (HO.out.lt kk hkk).2)
      clear hb1 ho1 e0 e1 e2
      go_wp2_with (at_builtin; refine wpList_append_any _ rfl _ _ _ rfl w.heap.size 51 i0 _ 6 48 Try.underlying29 hi hy0 hy1 hy2 rfl (by decide) _ _ _ rfl HO1.out w1.heap.size A2 (letsE x.b.w).length c2 (vE (letsE x.b.w)) rfl HR1.out (vE_one' _) (by unfold maxLen; omega) (by omega) HB1.out.size ?_)
      intro v2 w2 hown2 hg2 hat2
      have HB2 := Lib.hid (HB1.out.grown hg2 HB1.out.size (fun kk hkk => (HO1.out.lt kk hkk).1))
      have HO2 : Hid (w2.ownsRow w.heap.size 51 6 v2 (acc ++ letsE x.b.w).length (vE (acc ++ letsE x.b.w))) := by unfold Hid; rw [List.length_append, vE_append]; exact hown2
      obtain ⟨e0, e1, e2⟩ := (HY1.out.keep (fun o => World.cell?_of_block (a := ⟨wr.heap.size, o, none⟩) (hg2.block wr.heap.size hz1 (fun he => by have := hrow.out _ he.symm; omega)))).three
      have HT2 := Lib.hid (show Reads w2 w.heap.size 6 A1 x.e.length (vE x.e) from HT.out.keep fun p hp => (HB2.out.cell hp).trans (HB.out.cell hp).symm)
      clear hown2 hg2 hat2 HO1 HR1
      go_wp2_with (at_builtin; refine wpList_append_any _ rfl _ _ _ rfl w.heap.size 51 i0 _ 6 48 Try.underlying29 hi hy0 hy1 hy2 rfl (by decide) _ _ _ rfl HO2.out w.heap.size A1 x.e.length c1 (vE x.e) rfl HT2.out (vE_one' _) (by rw [List.length_append]; unfold maxLen; omega) (by rw [List.length_append]; omega) HB2.out.size ?_)
      intro v3 w3 hown3 hg3 hat3
      have HB3 := Lib.hid (HB2.out.grown hg3 HB2.out.size (fun kk hkk => (HO2.out.lt kk hkk).1))
      have HO3 : Hid (w3.ownsRow w.heap.size 51 6 v3 (acc ++ letsE x.b.w ++ x.e).length (vE (acc ++ letsE x.b.w ++ x.e))) := by unfold Hid; rw [List.length_append, vE_append, List.length_append]; exact hown3
      clear hown3 hg3 hat3 e0 e1 e2
      go_wp2
      exact ⟨⟨k + 1, acc ++ letsE x.b.w ++ x.e, by omega, by go_num, HO3.out, by rw [List.length_append, List.length_append]; omega, HD.out, HB3.out⟩, by simp [intOf]; omega⟩
    · have HB := Lib.hid hb
      have HO := Lib.hid hown
      have HD := Lib.hid (show Y = acc by rw [hd.out, List.drop_of_length_le (by have := HLN.out; omega)]; simp [evsB])
      clear hb hown hd
      go_wp2
      go_ret
      exact ⟨_, rfl, by rw [HD.out]; exact OwC.of_own HO.out, HB.out⟩

end Go.Proofs.Ytjhhbdehgklneaa
