/-
  BraidEvents: l03Ok, l10Letters, wordEvents, BraidEvents of program and reference.
-/
import Derived.Test.YtfeonaocmnpkcaaBraidV
import Derived.Test.YtfeonaocmnpkcaaStitches
import Derived.Test.YtfeonaocmnpkcaaAppend
import Derived.Test.YtfeonaocmnpkcaaOwn
namespace Go.Proofs.Ytfeonaocmnpkcaa
set_option linter.unusedVariables false
set_option linter.unusedSimpArgs false
open Go.RowKit

def letE (k : Int) : Ev := ⟨1, (if k < 0 then -k else k) - 1, (if k < 0 then -1 else 1), 0, 0, 0⟩
def letsE (l : List Int) : List Ev := l.map letE
theorem letE_neg {k : Int} (h : k < 0) : letE k = ⟨1, -k - 1, -1, 0, 0, 0⟩ := by simp [letE, h]
theorem letE_pos {k : Int} (h : ¬ k < 0) : letE k = ⟨1, k - 1, 1, 0, 0, 0⟩ := by simp [letE, h]

/-- Letters that are letters on at most 12 strands. -/
def Lets (l : List Int) : Prop := ∀ x ∈ l, x ≠ 0 ∧ -11 ≤ x ∧ x ≤ 11
theorem lets_of {b : Br} (h : okBr b = true) : Lets b.w ∧ b.w.length ≤ 40 ∧ 0 ≤ b.n ∧ b.n ≤ 12 := by
  unfold okBr at h
  simp [-List.any_eq_true, -List.any_eq_false] at h
  obtain ⟨⟨h0, h1⟩, h2, h3⟩ := h
  refine ⟨fun x hx => ?_, h2, h0, h1⟩
  have := List.any_eq_false.1 h3 x hx
  unfold badL at this
  simp at this
  omega

theorem lets_snoc {l : List Int} {acc : List Ev} {k : Nat} {x : Int} (h : letsE l = acc ++ letsE (l.drop k)) (hx : l[k]? = some x) : letsE l = (acc ++ [letE x]) ++ letsE (l.drop (k + 1)) := by
  rw [h, drop_of_get hx, List.append_assoc]
  rfl

theorem l03Abs_any (k : Int) (h0 : -11 ≤ k) (h1 : k ≤ 11) (w : World) : Calls Try.prog 77 #[.int .i64 k] w fun e w' => e = .returned (.int .i64 (if k < 0 then -k else k)) ∧ w = w' := by
  by_cases h : k < 0
  all_goals
    go_enter Try.func77, Try.ntmps77
    go_wp2
    go_ret
    exact ⟨ret_int (by simp [h]), rfl⟩

set_option maxHeartbeats 4000000 in
set_option maxRecDepth 100000 in
theorem l10Letters_any (v : Value) (l : List Int) (w : World) (hl : RdI w w.heap.size v l) (hlet : Lets l) (hlen : l.length ≤ 1048576) :
    Calls Try.prog 64 #[v] w (GivesOw w 61 6 (letsE l).length (vE (letsE l))) := by
  obtain ⟨A, n, c, rfl, hln, hl, gl⟩ := hl
  have hn : n ≤ 1048576 := by have := hl.out; omega
  clear hlen
  obtain ⟨i0, hi, hz0, hz1, hz2⟩ := info_parts info_ev
  have HLT := Lib.hid hlet
  clear hlet
  have GL := Lib.hid gl
  clear gl
  go_enter Try.func64, Try.ntmps64
  go_wp2
  go_loopw [3, 4] (fun t i wr => ∃ (k : Nat) (acc : List Ev), k ≤ n ∧ i = .int .i64 k ∧ wr.ownsRow w.heap.size 61 6 t acc.length (vE acc) ∧ acc.length ≤ k ∧ Hid (letsE l = acc ++ letsE (l.drop k)) ∧ Below w.heap.size w wr) (fun _ i _ => n - (intOf i).toNat)
  case atStart => exact ⟨0, [], Nat.zero_le _, rfl, World.ownsRow_lit _ _ _ (Nat.le_refl _) (by unfold maxLen; omega) rfl, Nat.le_refl _, by unfold Hid; simp, (Below.refl _ _).alloc (Nat.le_refl _) _⟩
  case round =>
    rename_i wr
    obtain ⟨k, acc, hk, rfl, hown, hak, hd, hb⟩ := hrel
    by_cases hlt : k < n
    · obtain ⟨b, off, x, rfl, hbb, hlk, hc⟩ := GL.out k hlt
      have hc1 : wr.cell? ⟨b, off + k, none⟩ = some (.int .i64 x) := (hb.cell (p := ⟨b, off + k, none⟩) hbb).trans hc
      have hc2 := fun o => (World.cell?_alloc_lt wr o ⟨b, off + k, none⟩ (block_lt_of_cell hc1)).trans hc1
      obtain ⟨x0, x1, x2⟩ := HLT.out x (List.mem_of_getElem? hlk)
      have HB := Lib.hid hb
      have Hl := Lib.hid hlk
      have HO := Lib.hid hown
      have HD := Lib.hid (lets_snoc hd.out hlk)
      clear hc hb hlk hown hd
      by_cases hx : x < 0
      /- one step of spec.l10Letters: the event ⟨1, -x - 1, -1, 0, 0, 0⟩ -/
      · go_wp2_with fail
        refine (l03Abs_any x x1 x2 _).mono ?_
        rintro e w1 ⟨rfl, rfl⟩
        simp only [hx, if_true, if_false]
        go_wp2_with (at_builtin; refine wpList_append_own _ rfl _ _ 31 rfl w.heap.size 61 i0 _ 6 48 Try.underlying31 hi hz0 hz1 hz2 rfl (by decide) _ _ _ rfl ((HO.out.alloc _).alloc _) ⟨wr.heap.size + 1, 0, none⟩ 1 1 (⟨1, -x - 1, -1, 0, 0, 0⟩ : Ev).cells rfl rfl ?c1 ?c2 ?c3 ?c4 ?c5 ?_)
        case c1 => exact new_cells' _ _ (by simp)
        case c2 => exact cells_one _
        case c3 => unfold maxLen; omega
        case c4 => omega
        case c5 => have := HB.out.size; simp; omega
        intro v' w2 hown2 hgrow2 _
        have HB1 := Lib.hid (below_append' ((HB.out.alloc HB.out.size _).alloc (by have := HB.out.size; simp; omega) _) (by have := HB.out.size; simp; omega) HO.out (by simp; omega) hgrow2)
        have HO1 : Hid (w2.ownsRow w.heap.size 61 6 v' (acc ++ [letE x]).length (vE (acc ++ [letE x]))) := by
          unfold Hid
          rw [vE_snoc, List.length_append, letE_neg (k := x) (by omega)]
          exact hown2
        clear hgrow2 hown2 HB HO
        go_wp2
        exact ⟨⟨k + 1, acc ++ [letE x], by omega, by go_num, HO1.out, by simp; omega, HD.out, HB1.out⟩, by simp [intOf]; omega⟩
      /- one step of spec.l10Letters: the event ⟨1, x - 1, 1, 0, 0, 0⟩ -/
      · go_wp2_with fail
        refine (l03Abs_any x x1 x2 _).mono ?_
        rintro e w1 ⟨rfl, rfl⟩
        simp only [hx, if_true, if_false]
        go_wp2_with (at_builtin; refine wpList_append_own _ rfl _ _ 31 rfl w.heap.size 61 i0 _ 6 48 Try.underlying31 hi hz0 hz1 hz2 rfl (by decide) _ _ _ rfl ((HO.out.alloc _).alloc _) ⟨wr.heap.size + 1, 0, none⟩ 1 1 (⟨1, x - 1, 1, 0, 0, 0⟩ : Ev).cells rfl rfl ?c1 ?c2 ?c3 ?c4 ?c5 ?_)
        case c1 => exact new_cells' _ _ (by simp)
        case c2 => exact cells_one _
        case c3 => unfold maxLen; omega
        case c4 => omega
        case c5 => have := HB.out.size; simp; omega
        intro v' w2 hown2 hgrow2 _
        have HB1 := Lib.hid (below_append' ((HB.out.alloc HB.out.size _).alloc (by have := HB.out.size; simp; omega) _) (by have := HB.out.size; simp; omega) HO.out (by simp; omega) hgrow2)
        have HO1 : Hid (w2.ownsRow w.heap.size 61 6 v' (acc ++ [letE x]).length (vE (acc ++ [letE x]))) := by
          unfold Hid
          rw [vE_snoc, List.length_append, letE_pos (k := x) (by omega)]
          exact hown2
        clear hgrow2 hown2 HB HO
        go_wp2
        exact ⟨⟨k + 1, acc ++ [letE x], by omega, by go_num, HO1.out, by simp; omega, HD.out, HB1.out⟩, by simp [intOf]; omega⟩
    · have HB := Lib.hid hb
      have HO := Lib.hid hown
      have HD := Lib.hid (show letsE l = acc by rw [hd.out, List.drop_of_length_le (by have := hl.out; omega)]; simp [letsE])
      clear hb hown
      go_wp2
      go_ret
      exact ⟨_, rfl, by rw [HD.out]; exact (OwC.of_own HO.out), HB.out⟩

theorem size_any (k : Int) (h0 : -11 ≤ k) (h1 : k ≤ 11) (w : World) : Calls Try.prog 78 #[.int .i64 k] w fun e w' => e = .returned (.int .i64 (if k < 0 then -k else k)) ∧ w = w' := by
  have hm : max k (-k) = if k < 0 then -k else k := by split <;> omega
  by_cases h : k < 0
  all_goals
    go_enter Try.func78, Try.ntmps78
    go_wp2
    all_goals go_ret
    all_goals exact ⟨ret_int (by first | rfl | omega | (split <;> omega)), rfl⟩

set_option maxHeartbeats 4000000 in
set_option maxRecDepth 100000 in
theorem wordEvents_any (v : Value) (l : List Int) (w : World) (hl : RdI w w.heap.size v l) (hlet : Lets l) (hlen : l.length ≤ 1048576) :
    Calls Try.prog 65 #[v] w (GivesOw w 61 6 (letsE l).length (vE (letsE l))) := by
  obtain ⟨A, n, c, rfl, hln, hl, gl⟩ := hl
  have hn : n ≤ 1048576 := by have := hl.out; omega
  clear hlen
  obtain ⟨i0, hi, hz0, hz1, hz2⟩ := info_parts info_ev
  have HLT := Lib.hid hlet
  clear hlet
  have GL := Lib.hid gl
  clear gl
  go_enter Try.func65, Try.ntmps65
  go_wp2
  go_loopw [3, 9] (fun t i wr => ∃ (k : Nat) (acc : List Ev), k ≤ n ∧ i = .int .i64 k ∧ wr.ownsRow w.heap.size 61 6 t acc.length (vE acc) ∧ acc.length ≤ k ∧ Hid (letsE l = acc ++ letsE (l.drop k)) ∧ Below w.heap.size w wr) (fun _ i _ => n - (intOf i).toNat)
  case atStart => exact ⟨0, [], Nat.zero_le _, rfl, World.ownsRow_lit _ _ _ (Nat.le_refl _) (by unfold maxLen; omega) rfl, Nat.le_refl _, by unfold Hid; simp, (Below.refl _ _).alloc (Nat.le_refl _) _⟩
  case round =>
    rename_i wr
    obtain ⟨k, acc, hk, rfl, hown, hak, hd, hb⟩ := hrel
    by_cases hlt : k < n
    · obtain ⟨b, off, x, rfl, hbb, hlk, hc⟩ := GL.out k hlt
      have hc1 : wr.cell? ⟨b, off + k, none⟩ = some (.int .i64 x) := (hb.cell (p := ⟨b, off + k, none⟩) hbb).trans hc
      obtain ⟨x0, x1, x2⟩ := HLT.out x (List.mem_of_getElem? hlk)
      have HB := Lib.hid hb
      have Hl := Lib.hid hlk
      have HO := Lib.hid hown
      have HD := Lib.hid (lets_snoc hd.out hlk)
      clear hc hb hlk hown hd
      obtain ⟨s, hs⟩ : ∃ s, s = (if x < 0 then -x else x) := ⟨_, rfl⟩
      have hs0 : s ≠ 0 := by rw [hs]; split <;> omega
      have hs1 : s - 1 = (if x < 0 then -x else x) - 1 := by rw [hs]
      have hs2 : Int.tdiv x s = if x < 0 then -1 else 1 := by
        rw [hs]
        split
        · rw [Int.tdiv_neg, Int.tdiv_self (by omega)]
        · rw [Int.tdiv_self (by omega)]
      have hs3 : 1 ≤ s ∧ s ≤ 11 := by rw [hs]; split <;> omega
      have HE := Lib.hid (show letE x = ⟨1, s - 1, Int.tdiv x s, 0, 0, 0⟩ by rw [hs1, hs2]; rfl)
      have hz := size_any x x1 x2
      rw [← hs] at hz
      have HZ := Lib.hid hz
      clear hs hs1 hs2 hz
      obtain ⟨s0, s1⟩ := hs3
      go_wp2_with fail
      refine (HZ.out _).mono ?_
      rintro e w1 ⟨rfl, rfl⟩
      go_wp2_with fail
      refine (HZ.out _).mono ?_
      rintro e w1 ⟨rfl, rfl⟩
      go_wp2_with (at_builtin; refine wpList_append_own _ rfl _ _ 31 rfl w.heap.size 61 i0 _ 6 48 Try.underlying31 hi hz0 hz1 hz2 rfl (by decide) _ _ _ rfl (HO.out.alloc _) ⟨wr.heap.size, 0, none⟩ 1 1 (⟨1, s - 1, Int.tdiv x s, 0, 0, 0⟩ : Ev).cells rfl rfl ?c1 ?c2 ?c3 ?c4 ?c5 ?_)
      case c1 => exact new_cells' _ _ rfl
      case c2 => exact cells_one _
      case c3 => unfold maxLen; omega
      case c4 => omega
      case c5 => have := HB.out.size; simp; omega
      intro v' w2 hown2 hgrow2 _
      have HB1 := Lib.hid (below_append' (HB.out.alloc HB.out.size _) (by have := HB.out.size; simp; omega) HO.out (by simp) hgrow2)
      have HO1 : Hid (w2.ownsRow w.heap.size 61 6 v' (acc ++ [letE x]).length (vE (acc ++ [letE x]))) := by
        unfold Hid
        rw [vE_snoc, List.length_append, HE.out]
        exact hown2
      clear hgrow2 hown2 HB HO
      go_wp2
      exact ⟨⟨k + 1, acc ++ [letE x], by omega, by go_num, HO1.out, by simp; omega, HD.out, HB1.out⟩, by simp [intOf]; omega⟩
    · have HB := Lib.hid hb
      have HO := Lib.hid hown
      have HD := Lib.hid (show letsE l = acc by rw [hd.out, List.drop_of_length_le (by have := hl.out; omega)]; simp [letsE])
      clear hb hown
      go_wp2
      go_ret
      exact ⟨_, rfl, by rw [HD.out]; exact (OwC.of_own HO.out), HB.out⟩

set_option maxHeartbeats 4000000 in
theorem l03Letters_any (n : Int) (v : Value) (l : List Int) (h0 : 0 ≤ n) (h1 : n ≤ 12) (w : World) (hl : RdI w w.heap.size v l) :
    Calls Try.prog 52 #[v, .int .i64 n] w fun e w' => e = .returned (.bool (!(l.any (badL n)))) ∧ Below w.heap.size w w' := by
  obtain ⟨A, m, c, rfl, hln, hl, gl⟩ := hl
  have GL := Lib.hid gl
  clear gl
  generalize hR : l.any (badL n) = R
  have HR := Lib.hid hR
  clear hR
  go_enter Try.func52, Try.ntmps52
  go_wp2
  go_loopw [5] (fun i wr => ∃ (k : Nat), k ≤ m ∧ i = .int .i64 k ∧ Hid (R = (l.drop k).any (badL n)) ∧ Below w.heap.size w wr) (fun i _ => m - (intOf i).toNat)
  case atStart => exact ⟨0, Nat.zero_le _, rfl, HR.out.symm, Below.refl _ _⟩
  case round =>
    rename_i wr
    obtain ⟨k, hk, rfl, hd, hb⟩ := hrel
    by_cases hlt : k < m
    · obtain ⟨b, off, x, rfl, hbb, hlk, hc⟩ := GL.out k hlt
      have hc1 : wr.cell? ⟨b, off + k, none⟩ = some (.int .i64 x) := (hb.cell (p := ⟨b, off + k, none⟩) hbb).trans hc
      have hd1 : R = (badL n x || (l.drop (k + 1)).any (badL n)) := by rw [hd.out, drop_of_get hlk]; rfl
      have HB := Lib.hid hb
      have HD := Lib.hid hd1
      clear hc hb hlk hd hd1
      by_cases hx : x = 0
      · subst hx
        have HT := Lib.hid (show R = true by rw [HD.out]; simp [badL])
        go_wp2
        go_ret
        exact ⟨ret_bool (by rw [HT.out]; rfl), HB.out⟩
      · have e0 : (x == 0) = false := by simpa using hx
        cases hq : (decide (1 - n ≤ x) && decide (x ≤ n - 1))
        · have HT := Lib.hid (show R = true by rw [HD.out]; unfold badL; rw [hq]; simp)
          have HQ := Lib.hid hq
          clear hq hx
          go_wp2_with fail
          refine (l00In_any _ _ _ _).mono ?_
          rintro e w1 ⟨rfl, rfl⟩
          rw [HQ.out]
          go_wp2
          go_ret
          exact ⟨ret_bool (by rw [HT.out]; rfl), HB.out⟩
        · have HT := Lib.hid (show R = (l.drop (k + 1)).any (badL n) by rw [HD.out]; unfold badL; rw [hq]; simp [hx])
          have HQ := Lib.hid hq
          clear hq hx
          go_wp2_with fail
          refine (l00In_any _ _ _ _).mono ?_
          rintro e w1 ⟨rfl, rfl⟩
          rw [HQ.out]
          go_wp2
          exact ⟨⟨k + 1, by omega, by go_num, HT.out, HB.out⟩, by simp [intOf]; omega⟩
    · have HB := Lib.hid hb
      have HT := Lib.hid (show R = false by rw [hd.out, List.drop_of_length_le (by have := hl.out; omega)]; rfl)
      clear hb
      go_wp2
      go_ret
      exact ⟨ret_bool (by rw [HT.out]; rfl), HB.out⟩

theorem l00In_yes' {n lo hi : Int} (h : lo ≤ n ∧ n ≤ hi) (w : World) : Calls Try.prog 51 #[.int .i64 n, .int .i64 lo, .int .i64 hi] w fun e w' => e = .returned (.bool true) ∧ Below w.heap.size w w' :=
  (l00In_any n lo hi w).mono fun e w' ⟨h1, h2⟩ => ⟨by rw [h1]; simp [h], by rw [h2]; exact Below.refl _ _⟩
theorem l00In_no' {n lo hi : Int} (h : ¬ (lo ≤ n ∧ n ≤ hi)) (w : World) : Calls Try.prog 51 #[.int .i64 n, .int .i64 lo, .int .i64 hi] w fun e w' => e = .returned (.bool false) ∧ Below w.heap.size w w' :=
  (l00In_any n lo hi w).mono fun e w' ⟨h1, h2⟩ => ⟨by rw [h1]; congr 1; congr 1; rw [Bool.eq_false_iff]; simpa using h, by rw [h2]; exact Below.refl _ _⟩

set_option maxHeartbeats 2000000 in
theorem l03Ok_any (b : Br) (s : Value) (g : Nat) (w : World) (hc : CellsAt w g 0 [.int .i64 b.n, s]) (hs : RdI w w.heap.size s b.w) :
    Calls Try.prog 30 #[.pointer (some ⟨g, 0, none⟩)] w fun e w' => e = .returned (.bool (okBr b)) ∧ Below w.heap.size w w' := by
  obtain ⟨n, wd⟩ := b
  simp only at hc hs ⊢
  obtain ⟨A0, n0, c0, rfl, hn0⟩ : ∃ A n c, s = .slice A n c ∧ wd.length = n := by
    obtain ⟨A, n, c, rfl, _, hl, _⟩ := hs
    exact ⟨A, n, c, rfl, hl.out⟩
  obtain ⟨e0, e1⟩ := hc.grow2
  have HS := fun X => Lib.hid ((hs.below (below_wgrow w X)).more (below_wgrow w X).size)
  clear hs
  have hok : okBr ⟨n, wd⟩ = ((decide (0 ≤ n) && decide (n ≤ 12)) && (decide ((n0 : Int) ≤ 40) && !(wd.any (badL n)))) := by
    unfold okBr
    simp only [hn0]
    rw [show decide ((n0 : Int) ≤ 40) = decide (n0 ≤ 40) by simp; omega]
  rw [hok]
  clear hok hn0 hc
  by_cases hr : 0 ≤ n ∧ n ≤ 12
  · have hr1 : (decide (0 ≤ n) && decide (n ≤ 12)) = true := by simpa using hr
    rw [hr1]
    clear hr1
    by_cases h40 : (n0 : Int) ≤ 40
    · have e40 : decide ((n0 : Int) ≤ 40) = true := by simpa using h40
      rw [e40]
      generalize hq : wd.any (badL n) = q
      have HQ := Lib.hid hq
      clear hq
      go_enter Try.func30, Try.ntmps30
      go_wp2
      refine wp_region_grow (by kernel_rfl) (by kernel_rfl) ?_
      repeat (go_big_quiet_step ((first | (go_at_call 51; exact calls_grow (l00In_yes' hr _)) | (go_at_call 52; exact calls_grow ((l03Letters_any n _ wd hr.1 hr.2 _ (HS _).out).mono fun e w' ⟨h1, h2⟩ => ⟨by rw [h1, HQ.out], h2⟩)))))
      refine wpQuiet_nil ?_
      intro w1 hb1
      go_wp2
      go_ret
      exact ⟨ret_bool (by simp), hb1⟩
    · have e40 : decide ((n0 : Int) ≤ 40) = false := by simpa using h40
      rw [e40]
      go_enter Try.func30, Try.ntmps30
      go_wp2
      refine wp_region_grow (by kernel_rfl) (by kernel_rfl) ?_
      repeat (go_big_quiet_step ((go_at_call 51; exact calls_grow (l00In_yes' hr _))))
      refine wpQuiet_nil ?_
      intro w1 hb1
      go_wp2
      go_ret
      exact ⟨ret_bool (by simp), hb1⟩
  · have hr1 : (decide (0 ≤ n) && decide (n ≤ 12)) = false := by rw [Bool.eq_false_iff]; simpa using hr
    rw [hr1]
    go_enter Try.func30, Try.ntmps30
    go_wp2
    refine wp_region_grow (by kernel_rfl) (by kernel_rfl) ?_
    repeat (go_big_quiet_step ((go_at_call 51; exact calls_grow (l00In_no' hr _))))
    refine wpQuiet_nil ?_
    intro w1 hb1
    go_wp2
    go_ret
    exact ⟨ret_bool (by simp), hb1⟩

def braidL (b : Br) : List Ev := if okBr b = true then letsE b.w else []


end Go.Proofs.Ytfeonaocmnpkcaa
