/-
  BraidEvents: l03Ok, l10Letters, wordEvents, BraidEvents of program and reference.
-/
import Derived.Test.YtiampiakhkpcbaaBraidV
import Derived.Test.YtiampiakhkpcbaaStitches
import Derived.Test.YtiampiakhkpcbaaAppend
import Derived.Test.YtiampiakhkpcbaaOwn
namespace Go.Proofs.Ytiampiakhkpcbaa
set_option linter.unusedVariables false
set_option linter.unusedSimpArgs false
open Go.RowKit

def letE (k : Int) : Ev := ⟨1, (if k < 0 then -k else k) - 1, (if k < 0 then -1 else 1), 0, 0, 0⟩
def letsE (l : List Int) : List Ev := l.map letE
theorem letE_neg {k : Int} (h : k < 0) : letE k = ⟨1, -k - 1, -1, 0, 0, 0⟩ := by simp [letE, h]
theorem letE_pos {k : Int} (h : ¬ k < 0) : letE k = ⟨1, k - 1, 1, 0, 0, 0⟩ := by simp [letE, h]

/-- Letters that are letters on at most 12 strands. -/
def Lets (l : List Int) : Prop := ∀ x ∈ l, x ≠ 0 ∧ -11 ≤ x ∧ x ≤ 11
theorem lets_of {b : Br} (h : okBr b = true) : Lets b.w ∧ b.w.length ≤ 40 ∧ 0 ≤ b.n ∧ b.n ≤ 12 := by
  unfold okBr at h
  simp [-List.any_eq_true, -List.any_eq_false] at h
  obtain ⟨⟨h0, h1⟩, h2, h3⟩ := h
  refine ⟨fun x hx => ?_, h2, h0, h1⟩
  have := List.any_eq_false.1 h3 x hx
  unfold badL at this
  simp at this
  omega

theorem lets_snoc {l : List Int} {acc : List Ev} {k : Nat} {x : Int} (h : letsE l = acc ++ letsE (l.drop k)) (hx : l[k]? = some x) : letsE l = (acc ++ [letE x]) ++ letsE (l.drop (k + 1)) := by
  rw [h, drop_of_get hx, List.append_assoc]
  rfl

theorem l03Abs_any (k : Int) (h0 : -11 ≤ k) (h1 : k ≤ 11) (w : World) : Calls Try.prog 59 #[.int .i64 k] w fun e w' => e = .returned (.int .i64 (if k < 0 then -k else k)) ∧ w = w' := by
  by_cases h : k < 0
  all_goals
    go_enter Try.func59, Try.ntmps59
    go_wp2
    go_ret
    exact ⟨ret_int (by simp [h]), rfl⟩

set_option maxHeartbeats 4000000 in
set_option maxRecDepth 100000 in
theorem l10Letters_any (v : Value) (l : List Int) (w : World) (hl : RdI w w.heap.size v l) (hlet : Lets l) (hlen : l.length ≤ 1048576) :
    Calls Try.prog 40 #[v] w (GivesOw w 33 6 (letsE l).length (vE (letsE l))) := by
  obtain ⟨A, n, c, rfl, hln, hl, gl⟩ := hl
  have hn : n ≤ 1048576 := by have := hl.out; omega
  clear hlen
  obtain ⟨i0, hi, hz0, hz1, hz2⟩ := info_parts info_ev
  have HLT := Lib.hid hlet
  clear hlet
  have GL := Lib.hid gl
  clear gl
  go_enter Try.func40, Try.ntmps40
  go_wp2
  go_loopw [3, 4] (fun t i wr => ∃ (k : Nat) (acc : List Ev), k ≤ n ∧ i = .int .i64 k ∧ wr.ownsRow w.heap.size 33 6 t acc.length (vE acc) ∧ acc.length ≤ k ∧ Hid (letsE l = acc ++ letsE (l.drop k)) ∧ Below w.heap.size w wr) (fun _ i _ => n - (intOf i).toNat)
  case atStart => exact ⟨0, [], Nat.zero_le _, rfl, World.ownsRow_lit _ _ _ (Nat.le_refl _) (by unfold maxLen; omega) rfl, Nat.le_refl _, by unfold Hid; simp, (Below.refl _ _).alloc (Nat.le_refl _) _⟩
  case round =>
    rename_i wr
    obtain ⟨k, acc, hk, rfl, hown, hak, hd, hb⟩ := hrel
    by_cases hlt : k < n
    · obtain ⟨b, off, x, rfl, hbb, hlk, hc⟩ := GL.out k hlt
      have hc1 : wr.cell? ⟨b, off + k, none⟩ = some (.int .i64 x) := (hb.cell (p := ⟨b, off + k, none⟩) hbb).trans hc
      have hc2 := fun o => (World.cell?_alloc_lt wr o ⟨b, off + k, none⟩ (block_lt_of_cell hc1)).trans hc1
      obtain ⟨x0, x1, x2⟩ := HLT.out x (List.mem_of_getElem? hlk)
      have HB := Lib.hid hb
      have Hl := Lib.hid hlk
      have HO := Lib.hid hown
      have HD := Lib.hid (lets_snoc hd.out hlk)
      clear hc hb hlk hown hd
      by_cases hx : x < 0
      /- one step of spec.l10Letters: the event ⟨1, -x - 1, -1, 0, 0, 0⟩ -/
      · go_wp2_with fail
        refine (l03Abs_any x x1 x2 _).mono ?_
        rintro e w1 ⟨rfl, rfl⟩
        simp only [hx, if_true, if_false]
        go_wp2_with (at_builtin; refine wpList_append_own _ rfl _ _ 23 rfl w.heap.size 33 i0 _ 6 48 Try.underlying23 hi hz0 hz1 hz2 rfl (by decide) _ _ _ rfl ((HO.out.alloc _).alloc _) ⟨wr.heap.size + 1, 0, none⟩ 1 1 (⟨1, -x - 1, -1, 0, 0, 0⟩ : Ev).cells rfl rfl ?c1 ?c2 ?c3 ?c4 ?c5 ?_)
        case c1 => exact new_cells' _ _ (by simp)
        case c2 => exact cells_one _
        case c3 => unfold maxLen; omega
        case c4 => omega
        case c5 => have := HB.out.size; simp; omega
        intro v' w2 hown2 hgrow2 _
        have HB1 := Lib.hid (below_append' ((HB.out.alloc HB.out.size _).alloc (by have := HB.out.size; simp; omega) _) (by have := HB.out.size; simp; omega) HO.out (by simp; omega) hgrow2)
        have HO1 : Hid (w2.ownsRow w.heap.size 33 6 v' (acc ++ [letE x]).length (vE (acc ++ [letE x]))) := by
          unfold Hid
          rw [vE_snoc, List.length_append, letE_neg (k := x) (by omega)]
          exact hown2
        clear hgrow2 hown2 HB HO
        go_wp2
        exact ⟨⟨k + 1, acc ++ [letE x], by omega, by go_num, HO1.out, by simp; omega, HD.out, HB1.out⟩, by simp [intOf]; omega⟩
      /- one step of spec.l10Letters: the event ⟨1, x - 1, 1, 0, 0, 0⟩ -/
      · go_wp2_with fail
        refine (l03Abs_any x x1 x2 _).mono ?_
        rintro e w1 ⟨rfl, rfl⟩
        simp only [hx, if_true, if_false]
        go_wp2_with (at_builtin; refine wpList_append_own _ rfl _ _ 23 rfl w.heap.size 33 i0 _ 6 48 Try.underlying23 hi hz0 hz1 hz2 rfl (by decide) _ _ _ rfl ((HO.out.alloc _).alloc _) ⟨wr.heap.size + 1, 0, none⟩ 1 1 (⟨1, x - 1, 1, 0, 0, 0⟩ : Ev).cells rfl rfl ?c1 ?c2 ?c3 ?c4 ?c5 ?_)
        case c1 => exact new_cells' _ _ (by simp)
        case c2 => exact cells_one _
        case c3 => unfold maxLen; omega
        case c4 => omega
        case c5 => have := HB.out.size; simp; omega
        intro v' w2 hown2 hgrow2 _
        have HB1 := Lib.hid (below_append' ((HB.out.alloc HB.out.size _).alloc (by have := HB.out.size; simp; omega) _) (by have := HB.out.size; simp; omega) HO.out (by simp; omega) hgrow2)
        have HO1 : Hid (w2.ownsRow w.heap.size 33 6 v' (acc ++ [letE x]).length (vE (acc ++ [letE x]))) := by
          unfold Hid
          rw [vE_snoc, List.length_append, letE_pos (k := x) (by omega)]
          exact hown2
        clear hgrow2 hown2 HB HO
        go_wp2
        exact ⟨⟨k + 1, acc ++ [letE x], by omega, by go_num, HO1.out, by simp; omega, HD.out, HB1.out⟩, by simp [intOf]; omega⟩
    · have HB := Lib.hid hb
      have HO := Lib.hid hown
      have HD := Lib.hid (show letsE l = acc by rw [hd.out, List.drop_of_length_le (by have := hl.out; omega)]; simp [letsE])
      clear hb hown
      go_wp2
      go_ret
      exact ⟨_, rfl, by rw [HD.out]; exact (OwC.of_own HO.out), HB.out⟩

theorem size_any (k : Int) (h0 : -11 ≤ k) (h1 : k ≤ 11) (w : World) : Calls Try.prog 60 #[.int .i64 k] w fun e w' => e = .returned (.int .i64 (if k < 0 then -k else k)) ∧ w = w' := by
  have hm : max k (-k) = if k < 0 then -k else k := by split <;> omega
  by_cases h : k < 0
  all_goals
    go_enter Try.func60, Try.ntmps60
    go_wp2
    all_goals go_ret
    all_goals exact ⟨ret_int (by first | rfl | omega | (split <;> omega)), rfl⟩

set_option maxHeartbeats 4000000 in
set_option maxRecDepth 100000 in
theorem wordEvents_any (v : Value) (l : List Int) (w : World) (hl : RdI w w.heap.size v l) (hlet : Lets l) (hlen : l.length ≤ 1048576) :
    Calls Try.prog 42 #[v] w (GivesOw w 33 6 (letsE l).length (vE (letsE l))) := by
  obtain ⟨A, n, c, rfl, hln, hl, gl⟩ := hl
  have hn : n ≤ 1048576 := by have := hl.out; omega
  clear hlen
  obtain ⟨i0, hi, hz0, hz1, hz2⟩ := info_parts info_ev
  have HLT := Lib.hid hlet
  clear hlet
  have GL := Lib.hid gl
  clear gl
  go_enter Try.func42, Try.ntmps42
  go_wp2
  go_loopw [3, 9] (fun t i wr => ∃ (k : Nat) (acc : List Ev), k ≤ n ∧ i = .int .i64 k ∧ wr.ownsRow w.heap.size 33 6 t acc.length (vE acc) ∧ acc.length ≤ k ∧ Hid (letsE l = acc ++ letsE (l.drop k)) ∧ Below w.heap.size w wr) (fun _ i _ => n - (intOf i).toNat)
  case atStart => exact ⟨0, [], Nat.zero_le _, rfl, World.ownsRow_lit _ _ _ (Nat.le_refl _) (by unfold maxLen; omega) rfl, Nat.le_refl _, by unfold Hid; simp, (Below.refl _ _).alloc (Nat.le_refl _) _⟩
  case round =>
    rename_i wr
    obtain ⟨k, acc, hk, rfl, hown, hak, hd, hb⟩ := hrel
    by_cases hlt : k < n
    · obtain ⟨b, off, x, rfl, hbb, hlk, hc⟩ := GL.out k hlt
      have hc1 : wr.cell? ⟨b, off + k, none⟩ = some (.int .i64 x) := (hb.cell (p := ⟨b, off + k, none⟩) hbb).trans hc
      obtain ⟨x0, x1, x2⟩ := HLT.out x (List.mem_of_getElem? hlk)
      have HB := Lib.hid hb
      have Hl := Lib.hid hlk
      have HO := Lib.hid hown
      have HD := Lib.hid (lets_snoc hd.out hlk)
      clear hc hb hlk hown hd
      obtain ⟨s, hs⟩ : ∃ s, s = (if x < 0 then -x else x) := ⟨_, rfl⟩
      have hs0 : s ≠ 0 := by rw [hs]; split <;> omega
      have hs1 : s - 1 = (if x < 0 then -x else x) - 1 := by rw [hs]
      have hs2 : Int.tdiv x s = if x < 0 then -1 else 1 := by
        rw [hs]
        split
        · rw [Int.tdiv_neg, Int.tdiv_self (by omega)]
        · rw [Int.tdiv_self (by omega)]
      have hs3 : 1 ≤ s ∧ s ≤ 11 := by rw [hs]; split <;> omega
      have HE := Lib.hid (show letE x = ⟨1, s - 1, Int.tdiv x s, 0, 0, 0⟩ by rw [hs1, hs2]; rfl)
      have hz := size_any x x1 x2
      rw [← hs] at hz
      have HZ := Lib.hid hz
      clear hs hs1 hs2 hz
      obtain ⟨s0, s1⟩ := hs3
      go_wp2_with fail
      refine (HZ.out _).mono ?_
      rintro e w1 ⟨rfl, rfl⟩
      go_wp2_with fail
      refine (HZ.out _).mono ?_
      rintro e w1 ⟨rfl, rfl⟩
      go_wp2_with (at_builtin; refine wpList_append_own _ rfl _ _ 23 rfl w.heap.size 33 i0 _ 6 48 Try.underlying23 hi hz0 hz1 hz2 rfl (by decide) _ _ _ rfl (HO.out.alloc _) ⟨wr.heap.size, 0, none⟩ 1 1 (⟨1, s - 1, Int.tdiv x s, 0, 0, 0⟩ : Ev).cells rfl rfl ?c1 ?c2 ?c3 ?c4 ?c5 ?_)
      case c1 => exact new_cells' _ _ rfl
      case c2 => exact cells_one _
      case c3 => unfold maxLen; omega
      case c4 => omega
      case c5 => have := HB.out.size; simp; omega
      intro v' w2 hown2 hgrow2 _
      have HB1 := Lib.hid (below_append' (HB.out.alloc HB.out.size _) (by have := HB.out.size; simp; omega) HO.out (by simp) hgrow2)
      have HO1 : Hid (w2.ownsRow w.heap.size 33 6 v' (acc ++ [letE x]).length (vE (acc ++ [letE x]))) := by
        unfold Hid
        rw [vE_snoc, List.length_append, HE.out]
        exact hown2
      clear hgrow2 hown2 HB HO
      go_wp2
      exact ⟨⟨k + 1, acc ++ [letE x], by omega, by go_num, HO1.out, by simp; omega, HD.out, HB1.out⟩, by simp [intOf]; omega⟩
    · have HB := Lib.hid hb
      have HO := Lib.hid hown
      have HD := Lib.hid (show letsE l = acc by rw [hd.out, List.drop_of_length_le (by have := hl.out; omega)]; simp [letsE])
      clear hb hown
      go_wp2
      go_ret
      exact ⟨_, rfl, by rw [HD.out]; exact (OwC.of_own HO.out), HB.out⟩



def braidL (b : Br) : List Ev := if okBr b = true then letsE b.w else []


end Go.Proofs.Ytiampiakhkpcbaa
