/-
  StitchesOf of the reference and of the program.
-/
import Derived.Test.YtmgicdcpeblpnaaEv
import Derived.Test.YtmgicdcpeblpnaaWords
namespace Go.Proofs.Ytmgicdcpeblpnaa
set_option linter.unusedVariables false
set_option linter.unusedSimpArgs false
open Go.RowKit

def isSt (e : Ev) : Bool := e.k != 1
def stOf (l : List Ev) : List Ev := l.filter isSt

theorem st_keep {l acc : List Ev} {k : Nat} {x : Ev} (h : stOf l = acc ++ stOf (l.drop k)) (hx : l[k]? = some x) (hk : isSt x = true) : stOf l = (acc ++ [x]) ++ stOf (l.drop (k + 1)) := by
  rw [h, drop_of_get hx, List.append_assoc]
  congr 1
  simp [stOf, List.filter_cons, hk]
theorem st_drop {l acc : List Ev} {k : Nat} {x : Ev} (h : stOf l = acc ++ stOf (l.drop k)) (hx : l[k]? = some x) (hk : isSt x = false) : stOf l = acc ++ stOf (l.drop (k + 1)) := by
  rw [h, drop_of_get hx]
  congr 1
  simp [stOf, List.filter_cons, hk]
theorem vE_snoc (acc : List Ev) (x : Ev) : vE (acc ++ [x]) = vE acc ++ x.cells := by simp [vE, vS]

theorem cells_one (x : Ev) : ∀ u ∈ x.cells, u.oneCell' = true := by
  intro u hu
  simp at hu
  rcases hu with rfl | rfl | rfl | rfl | rfl | rfl <;> rfl

set_option maxHeartbeats 4000000 in
set_option maxRecDepth 100000 in
theorem specStitchesOf_any (v : Value) (l : List Ev) (w : World) (hl : RdE w w.heap.size v l) (hlen : l.length ≤ 1048576) :
    Calls Try.prog 23 #[v] w (GivesOw w 68 6 (stOf l).length (vE (stOf l))) := by
  obtain ⟨A, n, c, rfl, hln, hl, gl⟩ := hl
  have hn : n ≤ 1048576 := by have := hl.out; omega
  clear hlen
  obtain ⟨i0, hi, hz0, hz1, hz2⟩ := info_parts info_ev
  go_enter Try.func23, Try.ntmps23
  go_wp2
  go_loopw [3, 4] (fun t i wr => ∃ (k : Nat) (acc : List Ev), k ≤ n ∧ i = .int .i64 k ∧ wr.ownsRow w.heap.size 68 6 t acc.length (vE acc) ∧ acc.length ≤ k ∧ Hid (stOf l = acc ++ stOf (l.drop k)) ∧ Below w.heap.size w wr) (fun _ i _ => n - (intOf i).toNat)
  case atStart => exact ⟨0, [], Nat.zero_le _, rfl, World.ownsRow_lit _ _ _ (Nat.le_refl _) (by unfold maxLen; omega) rfl, Nat.le_refl _, by unfold Hid; simp, (Below.refl _ _).alloc (Nat.le_refl _) _⟩
  case round =>
    rename_i wr
    obtain ⟨k, acc, hk, rfl, hown, hak, hd, hb⟩ := hrel
    by_cases hlt : k < n
    · obtain ⟨b, off, x, rfl, hbb, hlk, hc⟩ := gl k hlt
      obtain ⟨c0, c1, c2, c3, c4, c5⟩ := (hc.below hb hbb).six
      have HB := Lib.hid hb
      have Hl := Lib.hid hlk
      have HO := Lib.hid hown
      clear hc hb hlk gl hown
      rcases hs : isSt x
      · have hs1 : (x.k != 1) = false := hs
        have HD := Lib.hid (st_drop hd.out Hl.out hs)
        clear hs
        go_wp2
        exact ⟨⟨k + 1, acc, by omega, by go_num, HO.out, by omega, HD.out, HB.out⟩, by simp [intOf]; omega⟩
      · have hs1 : (x.k != 1) = true := hs
        have HD := Lib.hid (st_keep hd.out Hl.out hs)
        clear hs
        go_wp2_with (at_builtin; refine wpList_append_own _ rfl _ _ 32 rfl w.heap.size 68 i0 _ 6 48 Try.underlying32 hi hz0 hz1 hz2 rfl (by decide) _ _ _ rfl (HO.out.alloc _) ⟨wr.heap.size, 0, none⟩ 1 1 x.cells rfl rfl ?c1 ?c2 ?c3 ?c4 ?c5 ?_)
        case c1 => exact new_cells wr 68 x.cells
        case c2 => exact cells_one x
        case c3 => unfold maxLen; omega
        case c4 => omega
        case c5 => have := HB.out.size; simp; omega
        intro v' w1 hown1 hgrow1 _
        have HB1 := Lib.hid (below_append HB.out HB.out.size HO.out hgrow1)
        have HO1 : Hid (w1.ownsRow w.heap.size 68 6 v' (acc ++ [x]).length (vE (acc ++ [x]))) := by unfold Hid; rw [vE_snoc, List.length_append]; exact hown1
        clear hgrow1 hown1
        go_wp2
        exact ⟨⟨k + 1, acc ++ [x], by omega, by go_num, HO1.out, by simp; omega, HD.out, HB1.out⟩, by simp [intOf]; omega⟩
    · have HB := Lib.hid hb
      have HO := Lib.hid hown
      have HD := Lib.hid (show stOf l = acc by rw [hd.out, List.drop_of_length_le (by have := hl.out; omega)]; simp [stOf])
      clear hb gl hown
      go_wp2
      go_ret
      exact ⟨_, rfl, by rw [HD.out]; exact (OwC.of_own HO.out), HB.out⟩

end Go.Proofs.Ytmgicdcpeblpnaa
