/-
  KindOf of the reference and of the program.
-/
import Derived.Test.YtmgicdcpeblpnaaSym
import Derived.Laws.Externs
namespace Go.Proofs.Ytmgicdcpeblpnaa
set_option linter.unusedVariables false
set_option linter.unusedSimpArgs false
open Go.RowKit

theorem bytes_ne {u s : ByteArray} (h : ¬ u = s) : (u.toList == s.toList) = false := by
  rw [beq_eq_false_iff_ne, ByteArray.toList_eq, ByteArray.toList_eq]
  intro e
  apply h
  cases u; cases s
  have := Array.toList_inj.1 e
  subst this
  rfl

/-- The least kind from k on whose symbol is s; 0 if there is none up to 11. -/
def kindGo (s : ByteArray) : Nat → Int → Int
  | 0, _ => 0
  | f + 1, k => if symB k = s then k else kindGo s f (k + 1)
def kindB (s : ByteArray) : Int := kindGo s 11 1

set_option maxHeartbeats 2000000 in
theorem specKind_any (s : ByteArray) (w : World) : Calls Try.prog 20 #[.string s] w fun e w' => e = .returned (.int .i64 (kindB s)) ∧ Below w.heap.size w w' := by
  have h0 := Lib.hid (rfl : kindB s = kindB s)
  generalize hK : kindB s = K at h0
  have HK := Lib.hid hK
  clear h0 hK
  go_enter Try.func20, Try.ntmps20
  go_wp2
  go_loopw [3] (fun t wr => ∃ (k : Nat), k ≤ 11 ∧ t = .int .i64 ((k : Int) + 1) ∧ Hid (K = kindGo s (11 - k) ((k : Int) + 1)) ∧ Below w.heap.size w wr) (fun t _ => 13 - (intOf t).toNat)
  case atStart => exact ⟨0, by omega, rfl, HK.out.symm, Below.refl _ _⟩
  case round =>
    rename_i wr
    obtain ⟨k, hk, rfl, hd, hb⟩ := hrel
    by_cases hlt : k < 11
    · have hd' : K = if symB ((k : Int) + 1) = s then ((k : Int) + 1) else kindGo s (11 - (k + 1)) ((k : Int) + 1 + 1) := by rw [hd.out, show 11 - k = (11 - (k + 1)) + 1 by omega, kindGo]
      clear hd
      have HB := Lib.hid hb
      clear hb
      by_cases hs : symB ((k : Int) + 1) = s
      · rw [if_pos hs] at hd'
        subst hd'
        have HS := Lib.hid hs
        clear hs
        go_wp2_with fail
        refine (specSym_any _ _).mono ?_
        rintro e w1 ⟨rfl, hb1⟩
        rw [HS.out]
        have HB1 := Lib.hid (HB.out.trans (hb1.mono HB.out.size))
        clear hb1
        go_wp2
        go_ret
        exact ⟨rfl, HB1.out⟩
      · rw [if_neg hs] at hd'
        have HD := Lib.hid hd'
        clear hd'
        go_wp2_with fail
        refine (specSym_any _ _).mono ?_
        rintro e w1 ⟨rfl, hb1⟩
        have HB1 := Lib.hid (HB.out.trans (hb1.mono HB.out.size))
        clear hb1
        generalize symB ((k : Int) + 1) = u at hs
        have hs1 := bytes_ne hs
        have HS := Lib.hid hs
        clear hs
        go_wp2
        exact ⟨⟨k + 1, by omega, by go_num, by unfold Hid; rw [HD.out]; congr 1, HB1.out⟩, by simp [intOf]; omega⟩
    · have HB := Lib.hid hb
      have HN := Lib.hid (show K = 0 by rw [hd.out, show 11 - k = 0 by omega]; rfl)
      clear hb
      go_wp2
      go_ret
      exact ⟨by rw [HN.out]; rfl, HB.out⟩

def symT : ByteArray := ⟨#[32, 107, 112, 111, 100, 101, 116, 115, 120, 121, 88, 89]⟩
theorem kind_table : ((List.range 256).all fun n => decide (max 0 (firstIdx symT (Int.ofNat n).toNat.toUInt8) = kindB ⟨#[UInt8.ofNat n]⟩)) = true := by kernel_rfl
theorem kind_byte (c : UInt8) : max 0 (firstIdx symT ((c.toNat : Int)).toNat.toUInt8) = kindB ⟨#[c]⟩ := by
  have h := List.all_eq_true.1 kind_table c.toNat (by simp; exact c.toNat_lt)
  simpa using h
theorem sym_one (k : Int) : (symB k).size = 1 ∨ symB k = ⟨#[]⟩ := by 
  unfold symB
  split
  · exact .inl rfl
  · exact .inr rfl
theorem kind_long (s : ByteArray) (h : s.size ≠ 1) : kindB s = 0 := by
  have hk : ∀ k : Int, okKind k = true → symB k ≠ s := by
    intro k hk e
    apply h
    rw [← e]
    unfold symB
    rw [if_pos hk]
    rfl
  unfold kindB
  simp only [kindGo]
  repeat rw [if_neg (hk _ (by decide))]

theorem indexByteString_any (s : ByteArray) (c : Int) (w : World) : (callFunc 126 #[.string s, .int .u8 c]).run Try.prog w = .ok (.value (.int .i64 (firstIdx s c.toNat.toUInt8))) w := by
  rw [run_callFunc_extern (fn := Try.f126) (e := Extern.BytealgIndexByte.indexByte) Try.func126 (by kernel_rfl) (by kernel_rfl) (by kernel_rfl) (by rfl), run_indexByte_string]
  rfl
theorem indexByte_any (s : ByteArray) (c : Int) (w : World) : Calls Try.prog 118 #[.string s, .int .u8 c] w fun e w' => e = .returned (.int .i64 (firstIdx s c.toNat.toUInt8)) ∧ w = w' := by
  have hd := indexByteString_any s c
  go_enter Try.func118, Try.ntmps118
  go_wp2
  go_ret
  exact ⟨rfl, rfl⟩
set_option maxHeartbeats 1000000 in
theorem indexOne_any (s : ByteArray) (c : UInt8) (hne : ([c] == s.toList) = false) (w : World) : Calls Try.prog 103 #[.string s, .string ⟨#[c]⟩] w fun e w' => e = .returned (.int .i64 (firstIdx s c)) ∧ w = w' := by
  go_enter Try.func103, Try.ntmps103
  go_wp2_with fail
  refine (indexByte_any _ _ _).mono ?_
  rintro e w1 ⟨rfl, rfl⟩
  go_wp2
  go_ret
  exact ⟨rfl, rfl⟩
theorem index_any (s : ByteArray) (c : UInt8) (hne : ([c] == s.toList) = false) (w : World) : Calls Try.prog 59 #[.string s, .string ⟨#[c]⟩] w fun e w' => e = .returned (.int .i64 (firstIdx s c)) ∧ w = w' := by
  go_enter Try.func59, Try.ntmps59
  go_wp2_with fail
  refine (indexOne_any _ _ hne _).mono ?_
  rintro e w1 ⟨rfl, rfl⟩
  go_wp2
  go_ret
  exact ⟨rfl, rfl⟩
set_option maxHeartbeats 1000000 in
theorem implKind_any (s : ByteArray) (w : World) (hs : s.size ≤ 1048576) : Calls Try.prog 21 #[.string s] w fun e w' => e = .returned (.int .i64 (kindB s)) ∧ w = w' := by
  by_cases h1 : s.size = 1
  · obtain ⟨⟨l⟩⟩ := s
    match l, h1 with
    | [c], _ =>
      have hk := kind_byte c
      generalize kindB ⟨⟨[c]⟩⟩ = K at hk
      go_enter Try.func21, Try.ntmps21
      go_wp2_with fail
      refine (index_any _ c (by rw [ByteArray.toList_eq]; simp) _).mono ?_
      rintro e w1 ⟨rfl, rfl⟩
      have hf : firstIdx ⟨#[32, 107, 112, 111, 100, 101, 116, 115, 120, 121, 88, 89]⟩ c = firstIdx symT ((c.toNat : Int)).toNat.toUInt8 := by simp [symT]
      rw [← hf] at hk
      clear hf
      generalize firstIdx ⟨#[32, 107, 112, 111, 100, 101, 116, 115, 120, 121, 88, 89]⟩ c = F at hk ⊢
      go_wp2
      all_goals go_ret
      all_goals exact ⟨ret_int (by omega), rfl⟩
  · have h2 : ¬ (s.size : Int) = 1 := by omega
    rw [kind_long s h1]
    go_enter Try.func21, Try.ntmps21
    go_wp2
    go_ret
    exact ⟨rfl, rfl⟩

end Go.Proofs.Ytmgicdcpeblpnaa
