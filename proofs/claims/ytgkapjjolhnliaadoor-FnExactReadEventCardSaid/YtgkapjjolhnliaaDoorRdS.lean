/-
  The program's words: strings.Split and the words that are not empty (plain).
-/
import Derived.Test.YtgkapjjolhnliaaDoorRdP
import Derived.Lib.SplitLaws
namespace Go.Proofs.YtgkapjjolhnliaaDoor
set_option linter.unusedVariables false
set_option linter.unusedSimpArgs false

def consH (x : List UInt8) : List (List UInt8) → List (List UInt8)
  | [] => []
  | h :: t => (x ++ h) :: t
theorem consH_two (x y : List UInt8) (l : List (List UInt8)) : consH x (consH y l) = consH (x ++ y) l := by cases l <;> simp [consH]
theorem splA_pre (c : UInt8) (l : List UInt8) : ∀ pre, splA c pre l = consH pre (splA c [] l) := by
  induction l with
  | nil => intro pre; simp [splA, consH]
  | cons x xs ih =>
    intro pre
    rw [splA, splA]
    split
    · simp [consH]
    · rw [ih (pre ++ [x]), ih ([] ++ [x]), consH_two]
      simp
theorem splitK_spl (c : UInt8) (l : List UInt8) : Lib.splitK [c] 0 (Lib.count l [c]) l = splA c [] l := by
  induction l with
  | nil => rw [Lib.count_miss (by simp [Lib.index])]; rfl
  | cons b l ih =>
    by_cases h : b = c
    · subst h
      have hix : Lib.index (b :: l) [b] = 0 := by rw [Lib.index]; simp [List.isPrefixOf]
      rw [Lib.count_cons_eq, Nat.add_comm, Lib.splitK, hix, splA, if_pos rfl, ← ih]
      simp
    · have hp : ([c] : List UInt8).isPrefixOf (b :: l) = false := by simp [List.isPrefixOf, Ne.symm h]
      have hix : Lib.index (b :: l) [c] = if Lib.index l [c] == -1 then -1 else Lib.index l [c] + 1 := by rw [Lib.index, hp]; simp
      rw [Lib.count_cons_ne b c l h, splA, if_neg h, splA_pre, ← ih]
      by_cases hm : Lib.index l [c] = -1
      · rw [Lib.count_miss hm]
        simp [Lib.splitK, consH]
      · have hge := Lib.index_ge l [c]
        obtain ⟨j, hj⟩ : ∃ j : Nat, Lib.index l [c] = j := ⟨(Lib.index l [c]).toNat, by omega⟩
        have hc : ∃ k, Lib.count l [c] = k + 1 := by
          rw [Lib.count_hit (by simp) hj]
          exact ⟨_, Nat.add_comm _ _⟩
        obtain ⟨k, hk⟩ := hc
        have hix2 : Lib.index (b :: l) [c] = (j : Int) + 1 := by rw [hix, if_neg (by simpa using hm), hj]
        rw [hk, Lib.splitK, Lib.splitK, hix2, hj, if_neg (by rw [beq_iff_eq]; omega), if_neg (by rw [beq_iff_eq]; omega)]
        have e1 : ((j : Int) + 1).toNat = j + 1 := by omega
        simp [consH, e1]
theorem splitB_spl (s : ByteArray) : (Lib.splitB ⟨#[32]⟩ 0 (Lib.countB s ⟨#[32]⟩) s).map (·.data.toList) = splA 32 [] s.data.toList := by
  rw [Lib.splitB_data]
  exact splitK_spl 32 s.data.toList

end Go.Proofs.YtgkapjjolhnliaaDoor
