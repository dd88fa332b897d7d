/-
  The reference's l01Split.
-/
import Derived.Test.YtgkapjjolhnliaaDoorRdP
import Derived.Test.YtgkapjjolhnliaaDoorEvtA
namespace Go.Proofs.YtgkapjjolhnliaaDoor
set_option linter.unusedVariables false
set_option linter.unusedSimpArgs false
open Go.RowKit

set_option maxHeartbeats 8000000 in
set_option maxRecDepth 100000 in
theorem l01Split_any (s : ByteArray) (b : UInt8) (hs : s.size ≤ 1048576) (w : World) : Calls Tryd.prog 15 #[.string s, .int .u8 (b.toNat : Int)] w fun e w' => ∃ v, e = .returned v ∧ w'.ownsRow w.heap.size 9 1 v (splA b [] s.data.toList).length (sC (splA b [] s.data.toList)) ∧ Below w.heap.size w w' := by
  obtain ⟨i0, hi, hz0, hz1, hz2⟩ := info_parts info_str
  go_enter Tryd.func15, Tryd.ntmps15
  go_wp2
  go_loopw [5, 6, 7] (fun v5 v6 v7 wr => ∃ (f k : Nat) (acc : List (List UInt8)) (wq : World), wq = wr ∧ v6 = .int .i64 (f : Int) ∧ v7 = .int .i64 (k : Int) ∧ f ≤ k ∧ k ≤ s.size ∧ acc.length ≤ k ∧ Hid (splA b [] s.data.toList = acc ++ splA b ((s.data.toList.drop f).take (k - f)) (s.data.toList.drop k)) ∧ Hid (wq.ownsRow w.heap.size 9 1 v5 acc.length (sC acc)) ∧ Hid (Below w.heap.size w wq)) (fun _ _ v7 _ => s.size - (intOf v7).toNat)
  case atStart => exact ⟨0, 0, [], _, rfl, rfl, rfl, Nat.le_refl _, Nat.zero_le _, Nat.le_refl _, by unfold Hid; simp, World.ownsRow_lit w #[] 0 (Nat.le_refl _) (by unfold maxLen; omega) rfl, (Below.refl _ _).alloc (Nat.le_refl _) _⟩
  case round =>
    obtain ⟨f, k, acc, wq, hwq, rfl, rfl, hfk, hk, hak, HD, HR, HB⟩ := hrel
    subst hwq
    obtain ⟨A, c, rfl⟩ := own_shape HR.out
    by_cases hlt : k < s.size
    · have hsk : s.data.toList.drop k = s[k] :: s.data.toList.drop (k + 1) := by
        rw [List.drop_eq_getElem_cons (by simpa using hlt)]
        rfl
      have hpiece : Value.string (s.extract f k) = strV ((s.data.toList.drop f).take (k - f)) := by
        unfold strV
        congr 1
        apply ByteArray.ext
        apply Array.ext'
        simp [ByteArray.data_extract, List.drop_take]
      have htk : (s.data.toList.drop f).take (k + 1 - f) = (s.data.toList.drop f).take (k - f) ++ [s[k]] := by
        rw [show k + 1 - f = (k - f) + 1 by omega, List.take_add_one, List.getElem?_drop, show f + (k - f) = k by omega, List.getElem?_eq_getElem (by simpa using hlt)]
        rfl
      have HK := Lib.hid htk
      clear htk
      have HP := Lib.hid hpiece
      have HS := Lib.hid hsk
      clear hpiece hsk
      by_cases hb : s[k] = b
      · have hb' : (((s[k]).toNat : Int) == (b.toNat : Int)) = true := by simp [hb]
        have HBB := Lib.hid hb
        clear hb
        go_wp2_with (at_builtin; refine wpList_append_own _ rfl _ _ 36 rfl w.heap.size 9 i0 _ 1 16 Tryd.underlying36 hi hz0 hz1 hz2 rfl (by decide) _ _ _ rfl (HR.out.alloc _) ⟨wq.heap.size, 0, none⟩ 1 1 (sC [(s.data.toList.drop f).take (k - f)]) rfl rfl ?c1 ?c2 ?c3 ?c4 ?c5 ?_)
        case c1 =>
          rw [show sC [(s.data.toList.drop f).take (k - f)] = [Value.string (s.extract f k)] from congrArg (fun q => [q]) HP.out.symm]
          exact new_cells wq _ _
        case c2 => exact sC_one _
        case c3 => unfold maxLen; omega
        case c4 => first | omega | simp | (simp; omega)
        case c5 => have := HB.out.size; simp; omega
        intro v' w5 hown5 hg5 _
        have HB5 := Lib.hid (below_append HB.out HB.out.size HR.out hg5)
        have HR5 : Hid (w5.ownsRow w.heap.size 9 1 v' (acc ++ [(s.data.toList.drop f).take (k - f)]).length (sC (acc ++ [(s.data.toList.drop f).take (k - f)]))) := by unfold Hid; rw [sC_app, List.length_append]; exact hown5
        clear hg5 hown5
        go_wp2
        exact ⟨⟨k + 1, k + 1, acc ++ [(s.data.toList.drop f).take (k - f)], w5, rfl, by go_num, by go_num, Nat.le_refl _, by omega, by simp; omega, by unfold Hid; rw [HD.out, HS.out, splA, if_pos HBB.out]; simp, HR5.out, HB5.out⟩, by simp [intOf]; omega⟩
      · have hb' : (((s[k]).toNat : Int) == (b.toNat : Int)) = false := by
          have : (s[k]).toNat ≠ b.toNat := fun e => hb (UInt8.toNat_inj.1 e)
          simp; omega
        have HBB := Lib.hid hb
        clear hb
        go_wp2
        exact ⟨⟨f, k + 1, acc, wq, rfl, by go_num, by go_num, by omega, by omega, by omega, by unfold Hid; rw [HD.out, HS.out, splA, if_neg HBB.out, ← HK.out], HR.out, HB.out⟩, by simp [intOf]; omega⟩
    · have hks : k = s.size := by omega
      have hpiece : Value.string (s.extract f s.size) = strV (s.data.toList.drop f) := by
        unfold strV
        congr 1
        apply ByteArray.ext
        apply Array.ext'
        rw [show (s.data.toList.drop f).toArray.toList = s.data.toList.drop f from rfl, ByteArray.data_extract, Array.toList_extract]
        simp only [List.extract_eq_take_drop]
        exact List.take_of_length_le (by simp)
      have HE : Hid (splA b [] s.data.toList = acc ++ [s.data.toList.drop f]) := by
        unfold Hid
        rw [HD.out, hks, show s.data.toList.drop s.size = [] from List.drop_of_length_le (by simp), splA, show (s.data.toList.drop f).take (s.size - f) = s.data.toList.drop f from List.take_of_length_le (by simp)]
      have HP := Lib.hid hpiece
      clear hpiece hks
      go_wp2_with (at_builtin; refine wpList_append_own _ rfl _ _ 36 rfl w.heap.size 9 i0 _ 1 16 Tryd.underlying36 hi hz0 hz1 hz2 rfl (by decide) _ _ _ rfl (HR.out.alloc _) ⟨wq.heap.size, 0, none⟩ 1 1 (sC [s.data.toList.drop f]) rfl rfl ?c1 ?c2 ?c3 ?c4 ?c5 ?_)
      case c1 =>
        rw [show sC [s.data.toList.drop f] = [Value.string (s.extract f s.size)] from congrArg (fun q => [q]) HP.out.symm]
        exact new_cells wq _ _
      case c2 => exact sC_one _
      case c3 => unfold maxLen; omega
      case c4 => first | omega | simp | (simp; omega)
      case c5 => have := HB.out.size; simp; omega
      intro v' w5 hown5 hg5 _
      have HB5 := Lib.hid (below_append HB.out HB.out.size HR.out hg5)
      have HR5 : Hid (w5.ownsRow w.heap.size 9 1 v' (acc ++ [s.data.toList.drop f]).length (sC (acc ++ [s.data.toList.drop f]))) := by unfold Hid; rw [sC_app, List.length_append]; exact hown5
      clear hg5 hown5
      go_wp2
      go_ret
      exact ⟨_, rfl, by rw [HE.out]; exact HR5.out, HB5.out⟩

end Go.Proofs.YtgkapjjolhnliaaDoor
