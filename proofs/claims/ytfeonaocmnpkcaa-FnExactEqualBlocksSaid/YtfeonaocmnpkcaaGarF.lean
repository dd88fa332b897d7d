/-
  Factors settled, of the reference.
-/
import Derived.Test.YtfeonaocmnpkcaaGarD
import Derived.Test.YtfeonaocmnpkcaaGarE
import Derived.Test.YtfeonaocmnpkcaaHRow
import Derived.Deep.LoopGhost
namespace Go.Proofs.Ytfeonaocmnpkcaa
set_option linter.unusedVariables false
set_option linter.unusedSimpArgs false
open Go.RowKit

theorem info_hd : (Try.prog.info? 22).map (fun i => (i.zero, i.size, i.bytes)) = some (some (.slice none 0 0), 1, 24) := by kernel_rfl
/-- The lists of permutations. -/
abbrev lstL (n : Nat) (L : List Pm) : List (List Int) := L.map (lst n)
theorem lstL_get {n : Nat} {L : List Pm} {k : Nat} {x : List Int} (h : (lstL n L)[k]? = some x) : ∃ p, L[k]? = some p ∧ x = lst n p := by
  rw [List.getElem?_map] at h
  cases hp : L[k]? with
  | none => rw [hp] at h; cases h
  | some p => rw [hp] at h; injection h with h; exact ⟨p, rfl, h.symm⟩
theorem lit_reads {w : World} {s : Value} {T : TypeId} : Reads (w.alloc (.cells #[s] T)) (w.heap.size + 1) 1 (some ⟨w.heap.size, 0, none⟩) 1 [s] :=
  ⟨by simp, fun _ => ⟨_, rfl, by simp, new_cells' T [s] rfl⟩⟩
theorem take_next {α : Type} {l : List α} {k : Nat} {x : α} (h : l[k]? = some x) : l.take (k + 1) = l.take k ++ [x] := by rw [List.take_add_one, h]; rfl

set_option maxHeartbeats 4000000 in
set_option maxRecDepth 100000 in
theorem l04FlipAll_any (n : Nat) (hn : n ≤ 12) (L : List Pm) (hL : AllOn n L) (hlen : L.length ≤ 5000) (v : Value) (w : World) (hv : RdL2 w w.heap.size v (lstL n L)) :
    Calls Try.prog 81 #[v] w fun e w' => ∃ v' hs, e = .returned v' ∧ HRow w' w.heap.size v' (lstL n (flipL n L)) hs ∧ HLow w' w.heap.size (lstL n (flipL n L)) hs ∧ Below w.heap.size w w' := by
  obtain ⟨A, c, rfl⟩ := hv.shape
  rw [List.length_map] at hv
  rw [List.length_map]
  obtain ⟨i0, hi, hy0, hy1, hy2⟩ := info_parts info_hd
  generalize hK : lstL n (flipL n L) = K
  have hKl : K.length = L.length := by rw [← hK]; simp [lstL, flipL]
  have hKx : ∀ (k : Nat) (p : Pm), L[k]? = some p → K[k]? = some (lst n (Pm.flip n p)) := fun k p h => by rw [← hK]; show ((L.map (Pm.flip n)).map (lst n))[k]? = _; rw [List.getElem?_map, List.getElem?_map, h]; rfl
  generalize hm : L.length = m at *
  have HV := Lib.hid hv
  have HK := Lib.hid hKx
  have HKL := Lib.hid hKl
  have HM := Lib.hid hm
  clear hv hKx hKl hK hm
  go_enter Try.func81, Try.ntmps81
  go_wp2
  go_loopw [3, 4] (fun t i wr => ∃ (k : Nat) (hs : List Value), k ≤ m ∧ i = .int .i64 k ∧ Hid (HRow wr w.heap.size t (K.take k) hs) ∧ Hid (HLow wr w.heap.size (K.take k) hs) ∧ Below w.heap.size w wr) (fun _ i _ => m - (intOf i).toNat)
  case atStart => exact ⟨0, [], Nat.zero_le _, rfl, HRow.nil (World.ownsRow_lit _ _ _ (Nat.le_refl _) (by unfold maxLen; omega) rfl), HLow.nil, (Below.refl _ _).alloc (Nat.le_refl _) _⟩
  case round =>
    rename_i wr
    obtain ⟨k, hs, hk, rfl, HH, HL, hb⟩ := hrel
    have HB := Lib.hid hb
    have hKk : (K.take k).length = k := by rw [List.length_take, HKL.out]; omega
    by_cases hlt : k < m
    · obtain ⟨b, off, x, s, rfl, hbb, hx, hc, hs1⟩ := (HV.out.below hb).at_ hlt
      obtain ⟨p, hp, rfl⟩ := lstL_get hx
      obtain ⟨As, cs, rfl⟩ := hs1.len
      have HQ := Lib.hid (l04Flip_any n hn p (hL p (List.mem_of_getElem? hp)) _ wr (hs1.more hb.size))
      have HN := Lib.hid (take_next (HK.out k p hp))
      have HKK := Lib.hid hKk
      clear hb hx hs1 hp hKk
      go_wp2_with fail
      refine HQ.out.mono ?_
      rintro e w1 ⟨v1, rfl, ho, hb1⟩
      have HO := Lib.hid (ho.rdA)
      obtain ⟨A1, c1, rfl, -⟩ := ho.cells
      have HB1 := Lib.hid hb1
      have hz1 := hb1.size
      have hzr := HB.out.size
      clear hb1 ho hc
      go_wp2_with (at_builtin; refine wpList_append_any _ rfl _ _ _ rfl w.heap.size 22 i0 _ 1 24 Try.underlying84 hi hy0 hy1 hy2 rfl (by decide) _ _ _ rfl ((own_below HH.out.own HB1.out).alloc _) (w1.heap.size + 1) _ 1 1 [_] rfl lit_reads (by intro u hu; simp at hu; subst hu; rfl) (by rw [HKK.out]; unfold maxLen; omega) (by rw [HKK.out]; omega) (by simp; omega) ?_)
      intro v2 w2 hown2 hg2 hat2
      have HH2 := Lib.hid (HRow.push HH.out HB1.out (HO.out.keep (fun b hb => ⟨hb.2, by intro e; have := (HH.out.own.lt b e).2; omega⟩) (fun _ _ _ => rfl)) (by rw [List.length_take]; exact hown2) hg2 (by simpa using hat2))
      have HB2 := Lib.hid (((HB.out.trans (HB1.out.mono hzr)).alloc (by omega) _).grown hg2 (by simp; omega) (fun kk hkk => (HH.out.own.lt kk hkk).1))
      have HL2 := Lib.hid (HLow.push HL.out HH.out HB1.out (HO.out.keep (fun b hb => ⟨hb.2, by intro e; have := (HH.out.own.lt b e).2; omega⟩) (fun _ _ _ => rfl)) (HO.out.keep (fun b hb => (by omega : w.heap.size ≤ b)) (fun _ _ _ => rfl)) hg2)
      rw [← HN.out] at HH2 HL2
      clear hown2 hg2 hat2
      go_wp2
      exact ⟨⟨k + 1, _, by omega, by go_num, HH2.out, HL2.out, HB2.out⟩, by simp [intOf]; omega⟩
    · have HHR := Lib.hid HH.out
      have HLR := Lib.hid HL.out
      clear hb
      obtain ⟨At, ct, hte⟩ := HH.out.shape'
      go_wp2
      go_ret
      obtain rfl : k = m := by omega
      have h := HHR.out
      have h2 := HLR.out
      rw [List.take_of_length_le (by rw [HKL.out]; omega)] at h h2
      exact ⟨_, hs, rfl, h, h2, HB.out⟩

end Go.Proofs.Ytfeonaocmnpkcaa
