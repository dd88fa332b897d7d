/-
  Words equal as braids, of the reference.
-/
import Derived.Test.YtfeonaocmnpkcaaGarH
namespace Go.Proofs.Ytfeonaocmnpkcaa
set_option linter.unusedVariables false
set_option linter.unusedSimpArgs false
open Go.RowKit

open Classical in
/-- The normal form of a word. -/
noncomputable def nfw (n : Nat) (w : List Int) : St := if h : ∃ s, IsNF n w s then Classical.choose h else ⟨0, []⟩
theorem isNF_ex {n : Nat} {w : List Int} (h : LetsN n w) : ∃ s, IsNF n w s := by
  obtain ⟨a, F, hN⟩ := Nrm.exists_ (raw_on w h)
  exact ⟨⟨pow0 w + a, F⟩, a, hN, rfl⟩
theorem nfw_spec {n : Nat} {w : List Int} (h : LetsN n w) : IsNF n w (nfw n w) := by
  unfold nfw
  rw [dif_pos (isNF_ex h)]
  exact Classical.choose_spec (isNF_ex h)
theorem nfw_eq {n : Nat} {w : List Int} {s : St} (h : LetsN n w) (hs : IsNF n w s) : s = nfw n w := hs.uniq h (nfw_spec h)
theorem nfw_nil (n : Nat) : nfw n [] = ⟨0, []⟩ := (nfw_eq (fun k hk => by simp at hk) (isNF_nil n)).symm
open Classical in
/-- Are two words equal as braids? -/
noncomputable def eqW (n : Nat) (a b : List Int) : Bool := decide (nfw n a = nfw n b)
open Classical in
theorem eqW_iff {n : Nat} {a b : List Int} : eqW n a b = true ↔ nfw n a = nfw n b := by unfold eqW; exact decide_eq_true_iff
theorem LetsN.append {n : Nat} {a b : List Int} (ha : LetsN n a) (hb : LetsN n b) : LetsN n (a ++ b) := fun x hx => (List.mem_append.1 hx).elim (ha x) (hb x)
/-- What the reference asks of the normal form of one word and the other's inverse. -/
theorem eqW_triv {n : Nat} {a b : List Int} {s : St} (ha : LetsN n a) (hb : LetsN n b) (hs : IsNF n (a ++ invW b) s) : eqW n a b = (decide (s.p = 0) && decide (s.F.length = 0)) := by
  rw [Bool.eq_iff_iff, eqW_iff, ← nf_equal ha hb (nfw_spec ha) (nfw_spec hb) hs]
  simp only [Bool.and_eq_true, decide_eq_true_eq]
  constructor
  · rintro rfl; exact ⟨rfl, rfl⟩
  · rintro ⟨h1, h2⟩
    obtain ⟨p, F⟩ := s
    simp only at h1 h2
    rw [h1, List.eq_nil_of_length_eq_zero h2]

/- append([]int64{}, list...), the result an own row that may grow: l00OwnR name · spec.l00Own function -/
set_option maxHeartbeats 1000000 in
theorem l00OwnR_any (v : Value) (l : List Int) (w : World) (hl : RdI w w.heap.size v l) (hlen : l.length ≤ 1048576) :
    Calls Try.prog 67 #[v] w (GivesRow w 2 1 l.length (vI l)) := by
  obtain ⟨A, c, rfl⟩ := hl.len
  obtain ⟨i0, hi, hz0, hz1, hz2⟩ := info_parts info_int
  have HR := Lib.hid (hl.reads).1
  generalize hn : l.length = n at *
  clear hl hn
  go_enter Try.func67, Try.ntmps67
  go_wp2_with (at_builtin; refine wpList_append_any _ rfl _ _ _ rfl w.heap.size 2 i0 _ 1 8 Try.underlying22 hi hz0 hz1 hz2 rfl (by decide) _ 0 [] rfl (World.ownsRow_lit _ _ _ (Nat.le_refl _) (by unfold maxLen; omega) rfl) w.heap.size _ n c (vI l) rfl (HR.out.alloc (Nat.le_refl _) _) (vI_one l) (by unfold maxLen; omega) (by omega) (by simp) ?_)
  intro v1 w1 hown hg hat
  have HB := Lib.hid (((Below.refl w.heap.size w).alloc (Nat.le_refl _) _).grown hg (by simp) (fun kk hkk => by simp [Value.ownBlock] at hkk; omega))
  have HO : Hid (w1.ownsRow w.heap.size 2 1 v1 n (vI l)) := by unfold Hid; simpa using hown
  clear hown hg hat
  go_wp2
  go_ret
  exact ⟨_, rfl, HO.out, HB.out⟩

set_option maxHeartbeats 400000 in
set_option maxRecDepth 100000 in
theorem l04Equal_any (n : Nat) (hn : n ≤ 12) (a b : List Int) (ha : LetsN n a) (hb : LetsN n b) (hal : a.length ≤ 2000) (hbl : b.length ≤ 2000) (u v : Value) (w : World) (hu : RdI w w.heap.size u a) (hv : RdI w w.heap.size v b) :
    Calls Try.prog 54 #[.int .i64 (n : Int), u, v] w fun e w' => e = .returned (.bool (eqW n a b)) ∧ Below w.heap.size w w' := by
  have HQ1 := Lib.hid (l00OwnR_any u a w hu (by omega))
  have HQ2 := Lib.hid (fun w1 (h : Below w.heap.size w w1) => l03Inverse_any v b w1 ((hv.below h).more h.size) (hb.bd hn) (by omega))
  obtain ⟨A, c, rfl⟩ := hu.len
  obtain ⟨A', c', rfl⟩ := hv.len
  obtain ⟨i0, hi, hz0, hz1, hz2⟩ := info_parts info_int
  have HA := Lib.hid ha
  have HBW := Lib.hid hb
  have hil : (invW b).length ≤ 2000 := by rw [invW_len]; omega
  clear hu hv ha hb
  go_enter Try.func54, Try.ntmps54
  go_wp2_with fail
  refine HQ1.out.mono ?_
  rintro e w1 ⟨v1, rfl, ho1, hb1⟩
  have HO1 := Lib.hid ho1
  have HB1 := Lib.hid hb1
  obtain ⟨A1, c1, rfl, -⟩ := (OwC.of_own ho1).cells
  have zz1 := hb1.size
  clear hb1 ho1
  go_wp2_with fail
  refine (HQ2.out _ HB1.out).mono ?_
  rintro e w2 ⟨v2, rfl, ho2, hb2⟩
  obtain ⟨A2, c2, rfl, -⟩ := ho2.cells
  have HR2 := Lib.hid (RdI.of_own ho2).reads.1
  have HO2 := Lib.hid (own_below HO1.out hb2)
  have HB2 := Lib.hid (HB1.out.trans (hb2.mono zz1))
  have zz2 := hb2.size
  clear hb2 ho2
  go_wp2_with (at_builtin; refine wpList_append_any _ rfl _ _ _ rfl w.heap.size 2 i0 _ 1 8 Try.underlying22 hi hz0 hz1 hz2 rfl (by decide) _ _ _ rfl HO2.out w2.heap.size A2 (invW b).length c2 (vI (invW b)) rfl HR2.out (vI_one _) (by unfold maxLen; omega) (by omega) (by omega) ?_)
  intro v3 w3 hown3 hg3 hat3
  have HB3 := Lib.hid (HB2.out.grown hg3 (by omega) (fun kk hkk => (HO2.out.lt kk hkk).1))
  have HO3 : Hid (w3.ownsRow w.heap.size 2 1 v3 (a ++ invW b).length (vI (a ++ invW b))) := by unfold Hid; rw [List.length_append, vI_append]; exact hown3
  have HR3 := Lib.hid (RdI.of_own (OwC.of_own HO3.out))
  have HQ3 := Lib.hid (l04Normal_any n hn (a ++ invW b) (HA.out.append HBW.out.inv) (by rw [List.length_append]; omega) v3 w3 HR3.out)
  have zz3 := HB3.out.size
  clear hown3 hg3 hat3
  obtain ⟨A3, c3, rfl, -⟩ := (OwC.of_own HO3.out).cells
  rw [List.length_append] at HQ3
  go_wp2_with fail
  refine HQ3.out.mono ?_
  rintro e w4 ⟨s, A4, c4, rfl, hs, hb4⟩
  have HB4 := Lib.hid (HB3.out.trans (hb4.mono zz3))
  have he := eqW_triv HA.out HBW.out hs
  have HZ4 := Lib.hid HB4.out.size
  obtain ⟨p, F⟩ := s
  dsimp only at he ⊢
  generalize F.length = fl at *
  have HE := Lib.hid he
  clear hs hb4 he
  by_cases h1 : p = 0
  · subst h1
    by_cases h2 : fl = 0
    · subst h2
      go_wp2
      go_ret
      exact ⟨ret_bool (by rw [HE.out]; simp), HB4.out.alloc HZ4.out _⟩
    · have h3 : ((fl : Int) == 0) = false := by simp; omega
      have HD := Lib.hid h2
      clear h2
      go_wp2
      go_ret
      exact ⟨ret_bool (by rw [HE.out]; simp [HD.out]), HB4.out.alloc HZ4.out _⟩
  · have h3 : (p == 0) = false := by simpa using h1
    have HD := Lib.hid h1
    clear h1
    go_wp2
    go_ret
    exact ⟨ret_bool (by rw [HE.out]; simp [HD.out]), HB4.out.alloc HZ4.out _⟩

end Go.Proofs.Ytfeonaocmnpkcaa
