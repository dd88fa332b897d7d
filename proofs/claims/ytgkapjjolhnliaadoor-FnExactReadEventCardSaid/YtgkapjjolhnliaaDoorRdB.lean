/-
  The reference's l01Number.
-/
import Derived.Test.YtgkapjjolhnliaaDoorRdN
import Derived.Test.YtgkapjjolhnliaaDoorDec
import Derived.Deep.RegionWith
import Derived.Deep.DeepCutAuto
import Derived.Deep.CutRange
import Derived.Deep.CutBlock
namespace Go.Proofs.YtgkapjjolhnliaaDoor
set_option linter.unusedVariables false
set_option linter.unusedSimpArgs false
open Go.RowKit

theorem ba_head (s : ByteArray) (h : 0 < s.size) : s.data.toList.head? = some s[0] := by
  rw [List.head?_eq_getElem?, List.getElem?_eq_getElem (by simpa using h)]
  rfl
theorem ba_drop (s : ByteArray) (k : Nat) : (s.extract k s.size).data.toList = s.data.toList.drop k := by
  rw [ByteArray.data_extract, Array.toList_extract]
  simp only [List.extract_eq_take_drop]
  exact List.take_of_length_le (by simp)
theorem ba_len (s : ByteArray) : s.data.toList.length = s.size := by simp
theorem ba_eq (s : ByteArray) (l : List UInt8) : (⟨l.toArray⟩ : ByteArray) = s ↔ l = s.data.toList := by
  constructor
  · intro h; rw [← h]
  · intro h; apply ByteArray.ext; rw [h]
set_option maxHeartbeats 1000000 in
theorem l01Digit_any (x : UInt8) (w : World) : Calls Tryd.prog 29 #[.int .u8 (x.toNat : Int)] w fun e w' => e = .returned (.bool (isDig x)) ∧ w = w' := by
  unfold isDig
  go_enter Tryd.func29, Tryd.ntmps29
  go_wp2
  all_goals go_ret
  all_goals exact ⟨ret_bool (by rw [Bool.eq_iff_iff]; simp; try omega), rfl⟩
/-- What reading a number's word answers. -/
def NumC (l : List UInt8) (w : World) (e : Ending) (w' : World) : Prop := ∃ n ok, e = .returned (.tuple #[.int .i64 n, .bool ok]) ∧ NumR l n ∧ Below w.heap.size w w'
set_option maxHeartbeats 8000000 in
set_option maxRecDepth 100000 in
theorem l01Number_any (s : ByteArray) (hs : s.size ≤ 1048576) (w : World) : Calls Tryd.prog 17 #[.string s] w (NumC s.data.toList w) := by
  have hD := Lib.hid (fun (n : Int) (h0 : -999999999 ≤ n) (h1 : n ≤ 999999999) (W : World) => l01Dec_any n (by omega) (by omega) W)
  go_enter Tryd.func17, Tryd.ntmps17
  go_upto_region 2 with fail
  go_cut [14] (fun s14 wx => ∃ (q : Bool), w = wx ∧ s14 = .bool q ∧ Hid (q = true ↔ s.data.toList.head? = some 45))
  case first =>
    by_cases h0 : s.size = 0
    · obtain rfl : s = ByteArray.empty := by simpa using h0
      go_wp2_with fail
      go_meet
      exact ⟨_, rfl, rfl, by simp [Hid]⟩
    · have hne : s.toList.isEmpty = false := by
        rw [Lib.toList_data]
        cases hl : s.data.toList with
        | nil => exact absurd (by rw [← ba_len, hl]; rfl) h0
        | cons a b => rfl
      have hp : 0 < s.size := by omega
      have hh := ba_head s hp
      have HH := Lib.hid hh
      clear hh h0
      by_cases hm : s[0] = 45
      · have hm' : (((s[0]).toNat : Int) == 45) = true := by simp [hm]
        have HM := Lib.hid hm
        clear hm
        go_wp2_with fail
        go_meet
        exact ⟨_, rfl, rfl, by unfold Hid; rw [HH.out, HM.out]; simp⟩
      · have hm' : (((s[0]).toNat : Int) == 45) = false := by
          rw [beq_eq_false_iff_ne]
          intro e
          exact hm (UInt8.toNat_inj.1 (by show _ = 45; omega))
        have HM := Lib.hid hm
        clear hm
        go_wp2_with fail
        go_meet
        exact ⟨_, rfl, rfl, by unfold Hid; rw [HH.out]; simpa using HM.out⟩
  case rest =>
  obtain ⟨q, hw0, rfl, HQ⟩ := hcut
  subst hw0
  go_upto_if 14 with fail
  go_cut [4] (fun s4 wx => ∃ (t : ByteArray) (wq : World), w = wx ∧ wq = wx ∧ s4 = .string t ∧ t.size ≤ 1048576 ∧ Hid (t.data.toList = absT s.data.toList) ∧ Hid (t.size < s.size ↔ s.data.toList.head? = some 45))
  case first =>
    cases q with
    | false =>
      have Hn := Lib.hid (show ¬ (s.data.toList.head? = some 45) from fun e => by have := HQ.out.2 e; cases this)
      clear HQ
      go_wp2_with fail
      go_meet
      exact ⟨_, _, rfl, rfl, rfl, hs, by unfold Hid absT; rw [if_neg Hn.out], ⟨fun e => absurd e (Nat.lt_irrefl _), fun e => absurd e Hn.out⟩⟩
    | true =>
      have hp : 1 ≤ s.size := by
        have h9 := HQ.out.1 rfl
        rcases Nat.eq_zero_or_pos s.size with h0 | h0
        · rw [List.eq_nil_of_length_eq_zero (show s.data.toList.length = 0 by rw [ba_len]; exact h0)] at h9
          cases h9
        · exact h0
      have Hn := Lib.hid (HQ.out.1 rfl)
      clear HQ
      go_wp2_with fail
      go_meet
      exact ⟨_, _, rfl, rfl, rfl, by simp; omega, by unfold Hid absT; rw [if_pos Hn.out, ba_drop], ⟨fun _ => Hn.out, fun _ => by simp; omega⟩⟩
  case rest =>
    obtain ⟨t, wq, hw0, hwq, rfl, htl, HT, HS⟩ := hcut
    subst hw0
    clear hwq
    by_cases hlen : 1 ≤ t.size ∧ t.size ≤ 9
    case neg =>
      have hNum := Lib.hid (numR_len (l := s.data.toList) (by rw [← HT.out, ba_len]; exact hlen))
      by_cases h1 : t.size < 1
      · go_wp2_with fail
        go_ret2
        exact ⟨_, _, rfl, hNum.out, Below.refl _ _⟩
      · have h2 : 9 < t.size := by omega
        go_wp2_with fail
        go_ret2
        exact ⟨_, _, rfl, hNum.out, Below.refl _ _⟩
    case pos =>
      obtain ⟨hl1, hl9⟩ := hlen
      have HT1 : Hid ((absT s.data.toList).length = t.size) := by unfold Hid; rw [← HT.out, ba_len]
      go_wp2_with fail
      go_loopw [5, 6] (fun v5 v6 wr => ∃ (n i : Nat), w = wr ∧ v5 = .int .i64 (n : Int) ∧ v6 = .int .i64 (i : Int) ∧ n ≤ 999999999 ∧ i ≤ t.size ∧ Hid (n = decV 0 ((absT s.data.toList).take i)) ∧ Hid (∀ x ∈ (absT s.data.toList).take i, isDig x = true)) (fun _ v6 _ => t.size - (intOf v6).toNat)
      case atStart => exact ⟨0, 0, rfl, rfl, rfl, Nat.zero_le _, Nat.zero_le _, by unfold Hid; rw [List.take_zero]; rfl, by unfold Hid; rw [List.take_zero]; intro x hx; cases hx⟩
      case round =>
        obtain ⟨n, i, hwr, rfl, rfl, hn9, hi, HN, HA⟩ := hrel
        subst hwr
        by_cases hlt : i < t.size
        · have hat : (absT s.data.toList)[i]? = some t[i] := by
            rw [← HT.out, List.getElem?_eq_getElem (by simpa using hlt)]
            rfl
          have HX := Lib.hid hat
          clear hat
          cases hd : isDig t[i] with
          | false =>
            have hNum := Lib.hid (numR_dig (l := s.data.toList) (List.mem_of_getElem? HX.out) hd)
            have HC := Lib.hid (fun (W : World) => l01Digit_any t[i] W)
            rw [hd] at HC
            clear hd
            go_wp2_with (go_at_call 29; refine (HC.out _).mono ?_; rintro e w' ⟨rfl, rfl⟩)
            go_ret2
            exact ⟨_, _, rfl, hNum.out, Below.refl _ _⟩
          | true =>
            have HC := Lib.hid (fun (W : World) => l01Digit_any t[i] W)
            rw [hd] at HC
            have hu : 48 ≤ t[i].toNat ∧ t[i].toNat ≤ 57 := by
              unfold isDig at hd
              simpa using hd
            obtain ⟨hu1, hu2⟩ := hu
            have A2 : Hid (∀ x ∈ (absT s.data.toList).take (i + 1), isDig x = true) := by
              intro x hx
              rw [List.take_add_one, HX.out] at hx
              rcases List.mem_append.1 hx with h | h
              · exact HA.out x h
              · simp at h; rw [h]; exact hd
            have N2 : Hid (10 * n + (t[i].toNat - 48) = decV 0 ((absT s.data.toList).take (i + 1))) := by
              unfold Hid
              rw [HN.out, List.take_add_one, HX.out, decV_app]
              exact (decV_one _ _).symm
            have hb : 10 * n + (t[i].toNat - 48) ≤ 999999999 := by
              rw [N2.out]
              have h9 := decV_lt ((absT s.data.toList).take (i + 1)) 0 0 (by omega) A2.out
              have h8 : 10 ^ (0 + ((absT s.data.toList).take (i + 1)).length) ≤ 10 ^ 9 := Nat.pow_le_pow_right (by omega) (by rw [List.length_take]; omega)
              omega
            clear hd HX
            generalize hu0 : t[i].toNat = u at *
            have hw1 : IntKind.u8.wrap ((u : Int) - 48) = (u : Int) - 48 := by rw [IntKind.wrap_u8]; omega
            have hw2 : IntKind.i64.wrap ((u : Int) - 48) = (u : Int) - 48 := IntWalk.i64_in _ (by omega)
            have hw3 : IntKind.i64.wrap (10 * (n : Int)) = 10 * (n : Int) := IntWalk.i64_in _ (by omega)
            go_wp2_with (go_at_call 29; refine (HC.out _).mono ?_; rintro e w' ⟨rfl, rfl⟩)
            exact ⟨⟨10 * n + (u - 48), i + 1, by first | rfl | trivial, by go_num, by go_num, hb, by omega, N2.out, A2.out⟩, by simp [intOf]; omega⟩
        · have hie : i = t.size := by omega
          have HN2 : Hid ((n : Int) = (decV 0 (absT s.data.toList) : Nat)) := by
            have h9 := HN.out
            rw [List.take_of_length_le (by rw [HT1.out]; omega)] at h9
            unfold Hid
            omega
          clear hie
          obtain ⟨z, hz⟩ : ∃ z : Int, z = numV s.data.toList := ⟨_, rfl⟩
          have HZ := Lib.hid hz
          by_cases hsg : t.size < s.size
          · have hzn : z = -(n : Int) := by
              rw [hz]
              unfold numV
              rw [if_pos (HS.out.1 hsg), HN2.out]
            have hb : -999999999 ≤ z ∧ z ≤ 999999999 := by omega
            obtain ⟨hb1, hb2⟩ := hb
            have hDz := Lib.hid (hD.out z hb1 hb2)
            have hgn : IntKind.i64.wrap (-(n : Int)) = z := by rw [IntWalk.i64_in _ (by omega), hzn]
            have HB := Lib.hid (And.intro hb1 hb2)
            clear hzn hz hD
            by_cases hq : Lib.itoa z = s.data.toList
            · have hqe : (⟨(Lib.itoa z).toArray⟩ : ByteArray) = s := (ba_eq s _).2 hq
              have HR := Lib.hid (numR_val HZ.out HB.out.1 HB.out.2)
              clear hq
              go_wp2_with (go_at_call 24; refine (hDz.out _).mono ?_; rintro e w' ⟨rfl, hb⟩; unfold strV; rw [hqe])
              go_ret2
              exact ⟨_, _, rfl, HR.out, hb⟩
            · have hqe : (Lib.itoa z == s.toList) = false := by
                rw [beq_eq_false_iff_ne, Lib.toList_data]
                exact hq
              have HR := Lib.hid (numR_not HZ.out hq)
              clear hq
              go_wp2_with (go_at_call 24; refine (hDz.out _).mono ?_; rintro e w' ⟨rfl, hb⟩; unfold strV)
              go_ret2
              exact ⟨_, _, rfl, HR.out, hb⟩
          · have hzn : z = (n : Int) := by
              rw [hz]
              unfold numV
              rw [if_neg (fun e => hsg (HS.out.2 e)), HN2.out]
            have HR := Lib.hid (numR_val (HZ.out) (by omega) (by omega))
            have HRn := Lib.hid (fun h => numR_not HZ.out h)
            subst hzn
            have hDz := Lib.hid (hD.out n (by omega) (by omega))
            clear hz hD
            by_cases hq : Lib.itoa n = s.data.toList
            · have hqe : (⟨(Lib.itoa n).toArray⟩ : ByteArray) = s := (ba_eq s _).2 hq
              clear hq
              go_wp2_with (go_at_call 24; refine (hDz.out _).mono ?_; rintro e w' ⟨rfl, hb⟩; unfold strV; rw [hqe])
              go_ret2
              exact ⟨_, _, rfl, HR.out, hb⟩
            · have hqe : (Lib.itoa n == s.toList) = false := by
                rw [beq_eq_false_iff_ne, Lib.toList_data]
                exact hq
              have HR2 := Lib.hid (HRn.out hq)
              clear hq
              go_wp2_with (go_at_call 24; refine (hDz.out _).mono ?_; rintro e w' ⟨rfl, hb⟩; unfold strV)
              go_ret2
              exact ⟨_, _, rfl, HR2.out, hb⟩

end Go.Proofs.YtgkapjjolhnliaaDoor
