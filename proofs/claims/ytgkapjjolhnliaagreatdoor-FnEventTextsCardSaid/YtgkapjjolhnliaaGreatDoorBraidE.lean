/-
  BraidEvents: l03Ok, l10Letters, wordEvents, BraidEvents of program and reference.
-/
import Derived.Test.YtgkapjjolhnliaaGreatDoorBraidV
import Derived.Test.YtgkapjjolhnliaaGreatDoorStitches
import Derived.Test.YtgkapjjolhnliaaGreatDoorAppend
import Derived.Test.YtgkapjjolhnliaaGreatDoorOwn
namespace Go.Proofs.YtgkapjjolhnliaaGreatDoor
set_option linter.unusedVariables false
set_option linter.unusedSimpArgs false
open Go.RowKit

def letE (k : Int) : Ev := ⟨1, (if k < 0 then -k else k) - 1, (if k < 0 then -1 else 1), 0, 0, 0⟩
def letsE (l : List Int) : List Ev := l.map letE
theorem letE_neg {k : Int} (h : k < 0) : letE k = ⟨1, -k - 1, -1, 0, 0, 0⟩ := by simp [letE, h]
theorem letE_pos {k : Int} (h : ¬ k < 0) : letE k = ⟨1, k - 1, 1, 0, 0, 0⟩ := by simp [letE, h]

/-- Letters that are letters on at most 12 strands. -/
def Lets (l : List Int) : Prop := ∀ x ∈ l, x ≠ 0 ∧ -11 ≤ x ∧ x ≤ 11
theorem lets_of {b : Br} (h : okBr b = true) : Lets b.w ∧ b.w.length ≤ 40 ∧ 0 ≤ b.n ∧ b.n ≤ 12 := by
  unfold okBr at h
  simp [-List.any_eq_true, -List.any_eq_false] at h
  obtain ⟨⟨h0, h1⟩, h2, h3⟩ := h
  refine ⟨fun x hx => ?_, h2, h0, h1⟩
  have := List.any_eq_false.1 h3 x hx
  unfold badL at this
  simp at this
  omega

theorem lets_snoc {l : List Int} {acc : List Ev} {k : Nat} {x : Int} (h : letsE l = acc ++ letsE (l.drop k)) (hx : l[k]? = some x) : letsE l = (acc ++ [letE x]) ++ letsE (l.drop (k + 1)) := by
  rw [h, drop_of_get hx, List.append_assoc]
  rfl


theorem size_any (k : Int) (h0 : -11 ≤ k) (h1 : k ≤ 11) (w : World) : Calls Tryz.prog 48 #[.int .i64 k] w fun e w' => e = .returned (.int .i64 (if k < 0 then -k else k)) ∧ w = w' := by
  have hm : max k (-k) = if k < 0 then -k else k := by split <;> omega
  by_cases h : k < 0
  all_goals
    go_enter Tryz.func48, Tryz.ntmps48
    go_wp2
    all_goals go_ret
    all_goals exact ⟨ret_int (by first | rfl | omega | (split <;> omega)), rfl⟩

set_option maxHeartbeats 4000000 in
set_option maxRecDepth 100000 in
theorem wordEvents_any (v : Value) (l : List Int) (w : World) (hl : RdI w w.heap.size v l) (hlet : Lets l) (hlen : l.length ≤ 1048576) :
    Calls Tryz.prog 31 #[v] w (GivesOw w 26 6 (letsE l).length (vE (letsE l))) := by
  obtain ⟨A, n, c, rfl, hln, hl, gl⟩ := hl
  have hn : n ≤ 1048576 := by have := hl.out; omega
  clear hlen
  obtain ⟨i0, hi, hz0, hz1, hz2⟩ := info_parts info_ev
  have HLT := Lib.hid hlet
  clear hlet
  have GL := Lib.hid gl
  clear gl
  go_enter Tryz.func31, Tryz.ntmps31
  go_wp2
  go_loopw [3, 9] (fun t i wr => ∃ (k : Nat) (acc : List Ev), k ≤ n ∧ i = .int .i64 k ∧ wr.ownsRow w.heap.size 26 6 t acc.length (vE acc) ∧ acc.length ≤ k ∧ Hid (letsE l = acc ++ letsE (l.drop k)) ∧ Below w.heap.size w wr) (fun _ i _ => n - (intOf i).toNat)
  case atStart => exact ⟨0, [], Nat.zero_le _, rfl, World.ownsRow_lit _ _ _ (Nat.le_refl _) (by unfold maxLen; omega) rfl, Nat.le_refl _, by unfold Hid; simp, (Below.refl _ _).alloc (Nat.le_refl _) _⟩
  case round =>
    rename_i wr
    obtain ⟨k, acc, hk, rfl, hown, hak, hd, hb⟩ := hrel
    by_cases hlt : k < n
    · obtain ⟨b, off, x, rfl, hbb, hlk, hc⟩ := GL.out k hlt
      have hc1 : wr.cell? ⟨b, off + k, none⟩ = some (.int .i64 x) := (hb.cell (p := ⟨b, off + k, none⟩) hbb).trans hc
      obtain ⟨x0, x1, x2⟩ := HLT.out x (List.mem_of_getElem? hlk)
      have HB := Lib.hid hb
      have Hl := Lib.hid hlk
      have HO := Lib.hid hown
      have HD := Lib.hid (lets_snoc hd.out hlk)
      clear hc hb hlk hown hd
      obtain ⟨s, hs⟩ : ∃ s, s = (if x < 0 then -x else x) := ⟨_, rfl⟩
      have hs0 : s ≠ 0 := by rw [hs]; split <;> omega
      have hs1 : s - 1 = (if x < 0 then -x else x) - 1 := by rw [hs]
      have hs2 : Int.tdiv x s = if x < 0 then -1 else 1 := by
        rw [hs]
        split
        · rw [Int.tdiv_neg, Int.tdiv_self (by omega)]
        · rw [Int.tdiv_self (by omega)]
      have hs3 : 1 ≤ s ∧ s ≤ 11 := by rw [hs]; split <;> omega
      have HE := Lib.hid (show letE x = ⟨1, s - 1, Int.tdiv x s, 0, 0, 0⟩ by rw [hs1, hs2]; rfl)
      have hz := size_any x x1 x2
      rw [← hs] at hz
      have HZ := Lib.hid hz
      clear hs hs1 hs2 hz
      obtain ⟨s0, s1⟩ := hs3
      go_wp2_with fail
      refine (HZ.out _).mono ?_
      rintro e w1 ⟨rfl, rfl⟩
      go_wp2_with fail
      refine (HZ.out _).mono ?_
      rintro e w1 ⟨rfl, rfl⟩
      go_wp2_with (at_builtin; refine wpList_append_own _ rfl _ _ 23 rfl w.heap.size 26 i0 _ 6 48 Tryz.underlying23 hi hz0 hz1 hz2 rfl (by decide) _ _ _ rfl (HO.out.alloc _) ⟨wr.heap.size, 0, none⟩ 1 1 (⟨1, s - 1, Int.tdiv x s, 0, 0, 0⟩ : Ev).cells rfl rfl ?c1 ?c2 ?c3 ?c4 ?c5 ?_)
      case c1 => exact new_cells' _ _ rfl
      case c2 => exact cells_one _
      case c3 => unfold maxLen; omega
      case c4 => omega
      case c5 => have := HB.out.size; simp; omega
      intro v' w2 hown2 hgrow2 _
      have HB1 := Lib.hid (below_append' (HB.out.alloc HB.out.size _) (by have := HB.out.size; simp; omega) HO.out (by simp) hgrow2)
      have HO1 : Hid (w2.ownsRow w.heap.size 26 6 v' (acc ++ [letE x]).length (vE (acc ++ [letE x]))) := by
        unfold Hid
        rw [vE_snoc, List.length_append, HE.out]
        exact hown2
      clear hgrow2 hown2 HB HO
      go_wp2
      exact ⟨⟨k + 1, acc ++ [letE x], by omega, by go_num, HO1.out, by simp; omega, HD.out, HB1.out⟩, by simp [intOf]; omega⟩
    · have HB := Lib.hid hb
      have HO := Lib.hid hown
      have HD := Lib.hid (show letsE l = acc by rw [hd.out, List.drop_of_length_le (by have := hl.out; omega)]; simp [letsE])
      clear hb hown
      go_wp2
      go_ret
      exact ⟨_, rfl, by rw [HD.out]; exact (OwC.of_own HO.out), HB.out⟩



def braidL (b : Br) : List Ev := if okBr b = true then letsE b.w else []

set_option maxHeartbeats 1000000 in
theorem implBraidEvents_any (v : Value) (b : Br) (w : World) (hl : RdBr w w.heap.size v b) (hlen : b.w.length ≤ 1048576) :
    Calls Tryz.prog 10 #[v] w (GivesOw w 26 6 (braidL b).length (vE (braidL b))) := by
  obtain ⟨s, rfl, hs⟩ := hl
  obtain ⟨A0, n0, c0, rfl⟩ := hs.shape
  have HS := Lib.hid hs
  have HLEN := Lib.hid hlen
  clear hs hlen
  have hcl : ∀ w1, Below (w.heap.size + 1) (w.alloc (.cells #[.int .i64 b.n, .slice A0 n0 c0] 33)) w1 → CellsAt w1 w.heap.size 0 [.int .i64 b.n, .slice A0 n0 c0] := by
    intro w1 hb1 j u hu
    rw [hb1.cell (by simp)]
    rcases j with _ | _ | j <;> simp at hu <;> subst hu <;> simp [go_sem]
  cases hok : okBr b
  · have HO := Lib.hid hok
    have hB := Lib.hid (show braidL b = [] by simp [braidL, hok])
    rw [hB.out]
    clear hok
    go_enter Tryz.func10, Tryz.ntmps10
    go_wp2_with fail
    refine (validBraid_any _ b _ ⟨_, rfl, HS.out.up ((Below.refl _ _).alloc (Nat.le_refl _) _) (by simp)⟩).mono ?_
    rintro e w1 ⟨rfl, hb⟩
    rw [HO.out]
    have HB := Lib.hid (((Below.refl _ _).alloc (Nat.le_refl _) _).trans (hb.mono (by simp)))
    clear hb hcl
    go_wp2
    go_ret
    exact ⟨_, rfl, .nil, HB.out⟩
  · have HO := Lib.hid hok
    have hB := Lib.hid (show braidL b = letsE b.w by simp [braidL, hok])
    rw [hB.out]
    have HL := Lib.hid (lets_of hok).1
    clear hok
    go_enter Tryz.func10, Tryz.ntmps10
    go_wp2_with fail
    refine (validBraid_any _ b _ ⟨_, rfl, HS.out.up ((Below.refl _ _).alloc (Nat.le_refl _) _) (by simp)⟩).mono ?_
    rintro e w1 ⟨rfl, hb⟩
    rw [HO.out]
    obtain ⟨c0, c1⟩ := (hcl w1 (by simpa using hb)).two
    have HB := Lib.hid (((Below.refl _ _).alloc (Nat.le_refl _) _).trans (hb.mono (by simp)))
    clear hb hcl
    go_wp2_with fail
    refine (wordEvents_any _ b.w _ (HS.out.up HB.out HB.out.size) HL.out HLEN.out).mono ?_
    rintro e w2 ⟨v2, rfl, ho, hb⟩
    go_wp2
    go_ret
    exact ⟨_, rfl, ho.wide HB.out.size (Nat.le_refl _), HB.out.trans (hb.mono HB.out.size)⟩

end Go.Proofs.YtgkapjjolhnliaaGreatDoor
