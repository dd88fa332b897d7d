/-
  Reading an event's text back: plain laws.
-/
import Derived.Test.YtgkapjjolhnliaaGreatDoorTxt
namespace Go.Proofs.YtgkapjjolhnliaaGreatDoor
set_option linter.unusedVariables false
set_option linter.unusedSimpArgs false

/-- A text parted at a byte; pre: what stands of the first piece. -/
def splA (b : UInt8) : List UInt8 → List UInt8 → List (List UInt8)
  | pre, [] => [pre]
  | pre, x :: xs => if x = b then pre :: splA b [] xs else splA b (pre ++ [x]) xs
theorem splA_app (b : UInt8) (l r : List UInt8) (h : ∀ u ∈ l, u ≠ b) : ∀ pre, splA b pre (l ++ r) = splA b (pre ++ l) r := by
  induction l with
  | nil => intro pre; simp
  | cons x xs ih =>
    intro pre
    rw [List.cons_append, splA, if_neg (h x (by simp)), ih (fun u hu => h u (by simp [hu]))]
    simp
theorem splA_join (b : UInt8) (r : List (List UInt8)) : ∀ (x : List UInt8), (∀ l ∈ x :: r, ∀ u ∈ l, u ≠ b) → splA b [] (Lib.join (x :: r) [b]) = x :: r := by
  induction r with
  | nil =>
    intro x h
    rw [Lib.join_one]
    have := splA_app b x [] (h x (by simp)) []
    simpa [splA] using this
  | cons y r ih =>
    intro x h
    have h1 : Lib.join (x :: y :: r) [b] = x ++ (b :: Lib.join (y :: r) [b]) := by
      rw [Lib.join_cons, Lib.join_cons]
      simp [Lib.joinTail]
    rw [h1, splA_app b x _ (h x (by simp)) [], splA, if_pos rfl, ih y (fun l hl => h l (by simp at hl ⊢; right; exact hl))]
    simp
theorem decDigits_dig (u : Nat) : ∀ x ∈ Lib.decDigits u, 48 ≤ x.toNat ∧ x.toNat ≤ 57 := by
  induction u using Nat.strongRecOn with
  | ind u ih =>
    intro x hx
    rw [Lib.decDigits] at hx
    split at hx
    · obtain rfl := List.mem_singleton.1 hx
      rw [UInt8.toNat_ofNat']
      omega
    · rcases List.mem_append.1 hx with h | h
      · exact ih (u / 10) (by omega) x h
      · obtain rfl := List.mem_singleton.1 h
        rw [UInt8.toNat_ofNat']
        omega
theorem itoa_ne (n : Int) : ∀ x ∈ Lib.itoa n, x ≠ 32 := by
  intro x hx e
  subst e
  unfold Lib.itoa at hx
  split at hx
  · rcases List.mem_cons.1 hx with h | h
    · cases h
    · have := decDigits_dig _ _ h
      simp at this
  · have := decDigits_dig _ _ hx
    simp at this
theorem wordK_ne (k : Int) : ∀ x ∈ wordK k, x ≠ 32 := by
  unfold wordK
  repeat' split
  all_goals decide
theorem yarnT_ne (e : Ev) : ∀ x ∈ yarnT e, x ≠ 32 := by
  intro x hx e1
  subst e1
  unfold yarnT at hx
  rcases List.mem_cons.1 hx with h | h
  · split at h <;> cases h
  rcases List.mem_cons.1 h with h | h
  · split at h <;> cases h
  exact itoa_ne _ _ h rfl
/-- The words of an event's text are the event's words. -/
theorem spl_evT (e : Ev) : splA 32 [] (evT e) = evW e := by
  rw [← evT_join]
  unfold evW
  simp only [List.cons_append, List.nil_append, List.append_assoc]
  refine splA_join 32 _ _ ?_
  intro l hl
  simp only [List.mem_cons, List.mem_append] at hl
  rcases hl with rfl | rfl | hl | hl
  · exact wordK_ne _
  · exact itoa_ne _
  · split at hl
    · cases hl
    · simp at hl; subst hl; exact itoa_ne _
  · split at hl
    · cases hl
    · simp at hl; subst hl; exact yarnT_ne _

end Go.Proofs.YtgkapjjolhnliaaGreatDoor
