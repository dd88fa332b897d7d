/-
  Lists of letters of permutations, copies, and the permutations of the reference.
-/
import Derived.Test.YtfeonaocmnpkcaaGarA
import Derived.Test.YtfeonaocmnpkcaaAppend
import Derived.Test.YtfeonaocmnpkcaaWords
import Derived.Test.YtfeonaocmnpkcaaOwn
namespace Go.Proofs.Ytfeonaocmnpkcaa
set_option linter.unusedVariables false
set_option linter.unusedSimpArgs false
open Go.RowKit

/-- The places where a permutation goes down, below m. -/
def deU (p : Pm) : Nat → List Int
  | 0 => []
  | i + 1 => if p.f (i + 1) < p.f i then deU p i ++ [(i : Int)] else deU p i
def upL (l : List Int) : List Int := l.map fun x => x + 1
/-- The letters with which a permutation of n can begin. -/
def stL (n : Nat) (p : Pm) : List Int := upL (deU p (n - 1))
theorem deU_len (p : Pm) : ∀ m, (deU p m).length ≤ m
  | 0 => by simp [deU]
  | m + 1 => by
    have := deU_len p m
    unfold deU
    split
    · simp; omega
    · omega
theorem mem_deU {p : Pm} : ∀ {m : Nat} {x : Int}, x ∈ deU p m ↔ ∃ i : Nat, x = i ∧ i < m ∧ p.f (i + 1) < p.f i
  | 0, x => by simp [deU]
  | m + 1, x => by
    unfold deU
    split
    · rename_i h
      rw [List.mem_append, mem_deU]
      constructor
      · rintro (⟨i, e, h1, h2⟩ | h1)
        · exact ⟨i, e, by omega, h2⟩
        · simp at h1; exact ⟨m, h1, by omega, h⟩
      · rintro ⟨i, e, h1, h2⟩
        by_cases him : i = m
        · subst him; exact .inr (by simp [e])
        · exact .inl ⟨i, e, by omega, h2⟩
    · rename_i h
      rw [mem_deU]
      constructor
      · rintro ⟨i, e, h1, h2⟩; exact ⟨i, e, by omega, h2⟩
      · rintro ⟨i, e, h1, h2⟩
        by_cases him : i = m
        · subst him; exact absurd h2 h
        · exact ⟨i, e, by omega, h2⟩
theorem mem_stL {n : Nat} {p : Pm} {x : Int} : x ∈ stL n p ↔ ∃ k : Nat, x = k ∧ 1 ≤ k ∧ k < n ∧ p.start k := by
  unfold stL upL Pm.start
  rw [List.mem_map]
  constructor
  · rintro ⟨y, hy, rfl⟩
    obtain ⟨i, rfl, h1, h2⟩ := mem_deU.1 hy
    exact ⟨i + 1, by simp, by omega, by omega, by simpa using h2⟩
  · rintro ⟨k, rfl, h1, h2, h3⟩
    refine ⟨(k : Int) - 1, mem_deU.2 ⟨k - 1, by omega, by omega, ?_⟩, by omega⟩
    rw [show k - 1 + 1 = k by omega]
    exact h3
theorem stL_len (n : Nat) (p : Pm) : (stL n p).length ≤ n := by
  have := deU_len p (n - 1)
  simp only [stL, upL, List.length_map]
  omega
/-- The first letter that can move from q to p; 0 if there is none. -/
def exP (n : Nat) (p q : Pm) : Int := ((stL n q).find? fun x => !((stL n p.inv).contains x)).getD 0
theorem exP_cases (n : Nat) (p q : Pm) : (exP n p q = 0 ∧ ∀ k, 1 ≤ k → k < n → q.start k → p.fin k) ∨ ∃ k : Nat, exP n p q = k ∧ 1 ≤ k ∧ k < n ∧ q.start k ∧ ¬ p.fin k := by
  unfold exP
  cases h : (stL n q).find? fun x => !((stL n p.inv).contains x)
  · left
    refine ⟨rfl, fun k h1 h2 h3 => ?_⟩
    rw [List.find?_eq_none] at h
    have h4 := h (k : Int) (mem_stL.2 ⟨k, rfl, h1, h2, h3⟩)
    simp only [Bool.not_eq_true', Bool.not_eq_false] at h4
    have h5 : (k : Int) ∈ stL n p.inv := by simpa using h4
    obtain ⟨j, e, _, _, h6⟩ := mem_stL.1 h5
    have : j = k := by omega
    subst this
    exact h6
  · right
    rename_i x
    have h1 := List.mem_of_find?_eq_some h
    have h2 := List.find?_some h
    obtain ⟨k, rfl, h3, h4, h5⟩ := mem_stL.1 h1
    refine ⟨k, rfl, h3, h4, h5, fun hf => ?_⟩
    have h6 : (k : Int) ∈ stL n p.inv := mem_stL.2 ⟨k, rfl, h3, h4, hf⟩
    simp [h6] at h2

/- append([]int64{}, list...): l00Own name · spec.l00Own function -/
set_option maxHeartbeats 1000000 in
theorem l00Own_any (v : Value) (l : List Int) (w : World) (hl : RdI w w.heap.size v l) (hlen : l.length ≤ 1048576) :
    Calls Try.prog 67 #[v] w (GivesL w l) := by
  obtain ⟨A, c, rfl⟩ := hl.len
  obtain ⟨i0, hi, hz0, hz1, hz2⟩ := info_parts info_int
  have HR := Lib.hid (hl.reads).1
  generalize hn : l.length = n at *
  have HN := Lib.hid hn
  clear hl hn
  go_enter Try.func67, Try.ntmps67
  go_wp2_with (at_builtin; refine wpList_append_any _ rfl _ _ _ rfl w.heap.size 2 i0 _ 1 8 Try.underlying22 hi hz0 hz1 hz2 rfl (by decide) _ 0 [] rfl (World.ownsRow_lit _ _ _ (Nat.le_refl _) (by unfold maxLen; omega) rfl) w.heap.size _ n c (vI l) rfl (HR.out.alloc (Nat.le_refl _) _) (vI_one l) (by unfold maxLen; omega) (by omega) (by simp) ?_)
  intro v1 w1 hown hg hat
  have HB := Lib.hid (((Below.refl w.heap.size w).alloc (Nat.le_refl _) _).grown hg (by simp) (fun kk hkk => by simp [Value.ownBlock] at hkk; omega))
  have HO : Hid (w1.ownsRow w.heap.size 2 1 v1 n (vI l)) := by unfold Hid; simpa using hown
  clear hown hg hat
  go_wp2
  go_ret
  exact ⟨_, rfl, by rw [HN.out]; exact OwC.of_own HO.out, HB.out⟩

set_option maxHeartbeats 1000000 in
set_option maxRecDepth 100000 in
theorem cloneI_any (v : Value) (l : List Int) (w : World) (hl : RdI w w.heap.size v l) (hlen : l.length ≤ 1048576) :
    Calls Try.prog 104 #[v] w (GivesL w l) := by
  obtain ⟨A, c, rfl⟩ := hl.len
  obtain ⟨i0, hi, hz0, hz1, hz2⟩ := info_parts info_int
  rcases A with _ | ad
  · have h0 : l = [] := by
      rcases Nat.eq_zero_or_pos l.length with h | h
      · exact List.eq_nil_of_length_eq_zero h
      · obtain ⟨b, off, e, _⟩ := hl.base h
        cases e
    subst h0
    have hq := fun W => Lib.run_eql_slice_nil (P := Try.prog) W 22 2 none 0 c 0 0 Try.underlying22
    clear hl
    go_enter Try.func104, Try.ntmps104
    go_wp2
    go_ret
    exact ⟨_, rfl, ⟨by simp [vI], .inl ⟨rfl, none, 0, rfl⟩⟩, Below.refl _ _⟩
  · have HR := Lib.hid (hl.reads).1
    generalize hn : l.length = n at *
    have HN := Lib.hid hn
    have hq := fun W => Lib.run_eql_slice_nil (P := Try.prog) W 22 2 (some ad) n c 0 0 Try.underlying22
    clear hl hn
    go_enter Try.func104, Try.ntmps104
    go_wp2_with (at_builtin; refine wpList_append_any _ rfl _ _ _ rfl w.heap.size 2 i0 _ 1 8 Try.underlying22 hi hz0 hz1 hz2 rfl (by decide) _ 0 [] rfl (World.ownsRow_lit _ _ _ (Nat.le_refl _) (by unfold maxLen; omega) rfl) w.heap.size _ n c (vI l) rfl (HR.out.alloc (Nat.le_refl _) _) (vI_one l) (by unfold maxLen; omega) (by omega) (by simp) ?_)
    intro v1 w1 hown hg hat
    have HB := Lib.hid (((Below.refl w.heap.size w).alloc (Nat.le_refl _) _).grown hg (by simp) (fun kk hkk => by simp [Value.ownBlock] at hkk; omega))
    have HO : Hid (w1.ownsRow w.heap.size 2 1 v1 n (vI l)) := by unfold Hid; simpa using hown
    clear hown hg hat
    go_wp2
    go_ret
    exact ⟨_, rfl, by rw [HN.out]; exact OwC.of_own HO.out, HB.out⟩

theorem one_snoc (k : Nat) : lst (k + 1) Pm.one = lst k Pm.one ++ [(k : Int)] := by
  unfold lst
  rw [List.range_succ, List.map_append]
  rfl
set_option maxHeartbeats 2000000 in
theorem l04Identity_any (n : Nat) (hn : n ≤ 12) (w : World) : Calls Try.prog 80 #[.int .i64 (n : Int)] w (GivesL w (lst n Pm.one)) := by
  obtain ⟨i0, hi, hz0, hz1, hz2⟩ := info_parts info_int
  go_enter Try.func80, Try.ntmps80
  go_wp2
  go_loopw [3, 4] (fun t i wr => ∃ (k : Nat), k ≤ n ∧ i = .int .i64 k ∧ wr.ownsRow w.heap.size 2 1 t k (vI (lst k Pm.one)) ∧ Below w.heap.size w wr) (fun _ i _ => n - (intOf i).toNat)
  case atStart => exact ⟨0, Nat.zero_le _, rfl, World.ownsRow_lit _ _ _ (Nat.le_refl _) (by unfold maxLen; omega) rfl, (Below.refl _ _).alloc (Nat.le_refl _) _⟩
  case round =>
    rename_i wr
    obtain ⟨k, hk, rfl, hown, hb⟩ := hrel
    have HB := Lib.hid hb
    have HO := Lib.hid hown
    by_cases hlt : k < n
    · clear hb hown
      go_wp2_with (at_builtin; refine wpList_append_own _ rfl _ _ 22 rfl w.heap.size 2 i0 _ 1 8 Try.underlying22 hi hz0 hz1 hz2 rfl (by decide) _ _ _ rfl (HO.out.alloc _) ⟨wr.heap.size, 0, none⟩ 1 1 [.int .i64 (k : Int)] rfl rfl ?c1 ?c2 ?c3 ?c4 ?c5 ?_)
      case c1 => exact new_cells' _ _ (by simp)
      case c2 => intro u hu; simp at hu; subst hu; rfl
      case c3 => unfold maxLen; omega
      case c4 => omega
      case c5 => have := HB.out.size; simp; omega
      intro v' w2 hown2 hgrow2 _
      have HB1 := Lib.hid (below_append' (HB.out.alloc HB.out.size _) (by have := HB.out.size; simp; omega) HO.out (by simp) hgrow2)
      have HO1 : Hid (w2.ownsRow w.heap.size 2 1 v' (k + 1) (vI (lst (k + 1) Pm.one))) := by unfold Hid; rw [one_snoc, vI_append]; exact hown2
      clear hgrow2 hown2 HB HO
      go_wp2
      exact ⟨⟨k + 1, by omega, by go_num, HO1.out, HB1.out⟩, by simp [intOf]; omega⟩
    · clear hb hown
      go_wp2
      go_ret
      obtain rfl : k = n := by omega
      exact ⟨_, rfl, by rw [lst_len]; exact OwC.of_own HO.out, HB.out⟩

/-- The half twist from the front, k of n places. -/
def halfU (n k : Nat) : List Int := (List.range k).map fun i : Nat => (n : Int) - 1 - (i : Int)
theorem halfU_snoc (n k : Nat) : halfU n (k + 1) = halfU n k ++ [(n : Int) - 1 - k] := by
  unfold halfU
  rw [List.range_succ, List.map_append]
  rfl
theorem halfU_len (n k : Nat) : (halfU n k).length = k := by simp [halfU]
theorem halfU_all (n : Nat) : halfU n n = lst n (Pm.half n) := by
  unfold halfU lst
  refine List.map_congr_left fun i hi => ?_
  have hi' : i < n := by simpa using hi
  show _ = ((Pm.dl n i : Nat) : Int)
  rw [Pm.dl_lt hi']
  omega
set_option maxHeartbeats 2000000 in
theorem l04Half_any (n : Nat) (hn : n ≤ 12) (w : World) : Calls Try.prog 82 #[.int .i64 (n : Int)] w (GivesL w (lst n (Pm.half n))) := by
  obtain ⟨i0, hi, hz0, hz1, hz2⟩ := info_parts info_int
  go_enter Try.func82, Try.ntmps82
  go_wp2
  go_loopw [3, 4] (fun t i wr => ∃ (k : Nat), k ≤ n ∧ i = .int .i64 ((n : Int) - 1 - k) ∧ wr.ownsRow w.heap.size 2 1 t k (vI (halfU n k)) ∧ Below w.heap.size w wr) (fun _ i _ => (intOf i + 1).toNat)
  case atStart => exact ⟨0, Nat.zero_le _, by simp, World.ownsRow_lit _ _ _ (Nat.le_refl _) (by unfold maxLen; omega) rfl, (Below.refl _ _).alloc (Nat.le_refl _) _⟩
  case round =>
    rename_i wr
    obtain ⟨k, hk, rfl, hown, hb⟩ := hrel
    have HB := Lib.hid hb
    have HO := Lib.hid hown
    obtain ⟨y, hy⟩ : ∃ y : Int, y = (n : Int) - 1 - k := ⟨_, rfl⟩
    rw [← hy]
    have HY := Lib.hid hy
    have hy0 : -1 ≤ y := by omega
    have hy1 : y ≤ 11 := by omega
    by_cases hlt : k < n
    · have hy2 : 0 ≤ y := by omega
      clear hb hown hy
      go_wp2_with (at_builtin; refine wpList_append_own _ rfl _ _ 22 rfl w.heap.size 2 i0 _ 1 8 Try.underlying22 hi hz0 hz1 hz2 rfl (by decide) _ _ _ rfl (HO.out.alloc _) ⟨wr.heap.size, 0, none⟩ 1 1 [.int .i64 y] rfl rfl ?c1 ?c2 ?c3 ?c4 ?c5 ?_)
      case c1 => exact new_cells' _ _ (by simp)
      case c2 => intro u hu; simp at hu; subst hu; rfl
      case c3 => unfold maxLen; omega
      case c4 => omega
      case c5 => have := HB.out.size; simp; omega
      intro v' w2 hown2 hgrow2 _
      have HB1 := Lib.hid (below_append' (HB.out.alloc HB.out.size _) (by have := HB.out.size; simp; omega) HO.out (by simp) hgrow2)
      have HO1 : Hid (w2.ownsRow w.heap.size 2 1 v' (k + 1) (vI (halfU n (k + 1)))) := by unfold Hid; rw [halfU_snoc, vI_append, ← HY.out]; exact hown2
      clear hgrow2 hown2 HB HO
      go_wp2
      exact ⟨⟨k + 1, by omega, by have := HY.out; rw [show (n : Int) - 1 - ((k + 1 : Nat) : Int) = y - 1 by omega], HO1.out, HB1.out⟩, by simp [intOf]; omega⟩
    · have hy2 : ¬ 0 ≤ y := by omega
      clear hb hown hy
      go_wp2
      go_ret
      obtain rfl : k = n := by omega
      exact ⟨_, rfl, by rw [lst_len, ← halfU_all]; exact OwC.of_own HO.out, HB.out⟩

end Go.Proofs.Ytfeonaocmnpkcaa
