/-
  The loops of a carrier: yarn of the program, l11Yarn of the reference.
-/
import Derived.Test.YtogaellhkjjeaaaMcApart
namespace Go.Proofs.Ytogaellhkjjeaaa
set_option linter.unusedVariables false
set_option linter.unusedSimpArgs false
open Go.RowKit

def yarnGo (c : Int) : Int → List Inf → List Int
  | _, [] => []
  | i, x :: t => if x.y = c then i :: yarnGo c (i + 1) t else yarnGo c (i + 1) t
theorem yarn_yes {c : Int} {L acc : List Int} {l : List Inf} {k : Nat} {x : Inf} (h : L = acc ++ yarnGo c (k : Int) (l.drop k)) (hx : l[k]? = some x) (hc : x.y = c) : L = (acc ++ [(k : Int)]) ++ yarnGo c ((k + 1 : Nat) : Int) (l.drop (k + 1)) := by
  rw [h, drop_of_get hx, yarnGo, if_pos hc, List.append_assoc]
  rfl
theorem yarn_no {c : Int} {L acc : List Int} {l : List Inf} {k : Nat} {x : Inf} (h : L = acc ++ yarnGo c (k : Int) (l.drop k)) (hx : l[k]? = some x) (hc : ¬ x.y = c) : L = acc ++ yarnGo c ((k + 1 : Nat) : Int) (l.drop (k + 1)) := by
  rw [h, drop_of_get hx, yarnGo, if_neg hc]
  rfl
theorem int_one (n : Int) : ∀ u ∈ [Value.int .i64 n], u.oneCell' = true := by
  intro u hu
  simp at hu
  subst hu
  rfl
theorem vI_snoc (acc : List Int) (n : Int) : vI (acc ++ [n]) = vI acc ++ [.int .i64 n] := by simp [vI]

set_option maxHeartbeats 4000000 in
set_option maxRecDepth 100000 in
theorem yarn_any (m : Mc) (F G C L D : Value) (g : Nat) (c : Int) (w : World) (hc : CellsAt w g 0 [.int .i64 m.wd, .int .i64 m.rk, F, G, C, L, D]) (hL : RdIs w w.heap.size L m.ls) (h300 : m.ls.length ≤ 300) :
    Calls Try.prog 62 #[.pointer (some ⟨g, 0, none⟩), .int .i64 c] w (GivesOw w 2 1 (yarnGo c 0 m.ls).length (vI (yarnGo c 0 m.ls))) := by
  obtain ⟨i0, hi, hz0, hz1, hz2⟩ := info_parts info_int
  obtain ⟨AI, cI, rfl⟩ := RdN.shape hL
  obtain ⟨x0, x1, x2, x3, x4, x5, x6⟩ := hc.seven
  have hgl : g < w.heap.size := block_lt_of_cell x0
  have HI := Lib.hid hL
  have HC := Lib.hid hc
  generalize hln : m.ls.length = n at *
  have HLN := Lib.hid hln
  clear hL hc hln
  generalize hY : yarnGo c 0 m.ls = Y
  have HY := Lib.hid hY
  clear hY
  go_enter Try.func62, Try.ntmps62
  go_wp2
  go_loopw [5, 14] (fun t i wr => ∃ (k : Nat) (acc : List Int), k ≤ n ∧ i = .int .i64 k ∧ wr.ownsRow w.heap.size 2 1 t acc.length (vI acc) ∧ acc.length ≤ k ∧ Hid (Y = acc ++ yarnGo c (k : Int) (m.ls.drop k)) ∧ Below w.heap.size w wr) (fun _ i _ => n - (intOf i).toNat)
  case atStart => exact ⟨0, [], Nat.zero_le _, rfl, World.ownsRow_lit _ _ _ (Nat.le_refl _) (by unfold maxLen; omega) rfl, Nat.le_refl _, by unfold Hid; rw [← HY.out]; rfl, (Below.refl _ _).alloc (Nat.le_refl _) _⟩
  case round =>
    rename_i wr
    obtain ⟨k, acc, hk, rfl, hown, hak, hd, hb⟩ := hrel
    by_cases hlt : k < n
    · obtain ⟨b, off, x, s, rfl, hbb, hlk, hcc, hs⟩ := (RdIs.below HI.out hb).at_ hlt
      obtain ⟨A1, n1, c1, rfl⟩ := RdI.shape' hs
      obtain ⟨c0, c1, c2, c3, c4, c5⟩ := hcc.six
      have HB := Lib.hid hb
      have HO := Lib.hid hown
      by_cases hy : x.y = c
      · have HD := Lib.hid (yarn_yes hd.out hlk hy)
        subst hy
        clear hb hown hd hlk hs hcc
        go_wp2_with (at_builtin; refine wpList_append_own _ rfl _ _ 27 rfl w.heap.size 2 i0 _ 1 8 Try.underlying27 hi hz0 hz1 hz2 rfl (by decide) _ _ _ rfl ((HO.out.alloc _).alloc _) ⟨wr.heap.size + 1, 0, none⟩ 1 1 [.int .i64 (k : Int)] rfl rfl ?c1 ?c2 ?c3 ?c4 ?c5 ?_)
        case c1 => exact new_cells' _ _ (by simp)
        case c2 => exact int_one _
        case c3 => unfold maxLen; omega
        case c4 => omega
        case c5 => have := HB.out.size; simp; omega
        intro v' w2 hown2 hgrow2 _
        have HB1 := Lib.hid (below_append' ((HB.out.alloc HB.out.size _).alloc (by have := HB.out.size; simp; omega) _) (by have := HB.out.size; simp; omega) HO.out (by simp; omega) hgrow2)
        have HO1 : Hid (w2.ownsRow w.heap.size 2 1 v' (acc ++ [(k : Int)]).length (vI (acc ++ [(k : Int)]))) := by unfold Hid; rw [vI_snoc, List.length_append]; exact hown2
        clear hgrow2 hown2 HB HO
        go_wp2
        exact ⟨⟨k + 1, acc ++ [(k : Int)], by omega, by go_num, HO1.out, by simp; omega, HD.out, HB1.out⟩, by simp [intOf]; omega⟩
      · have HD := Lib.hid (yarn_no hd.out hlk hy)
        have e0 : (x.y == c) = false := by simpa using hy
        clear hb hown hd hlk hs hcc hy
        go_wp2
        exact ⟨⟨k + 1, acc, by omega, by go_num, HO.out.alloc _, by omega, HD.out, HB.out.alloc HB.out.size _⟩, by simp [intOf]; omega⟩
    · have HB := Lib.hid hb
      have HO := Lib.hid hown
      have HD := Lib.hid (show Y = acc by rw [hd.out, List.drop_of_length_le (by have := HLN.out; omega)]; simp [yarnGo])
      clear hb hown hd
      go_wp2
      go_ret
      exact ⟨_, rfl, by rw [HD.out]; exact OwC.of_own HO.out, HB.out⟩


end Go.Proofs.Ytogaellhkjjeaaa
