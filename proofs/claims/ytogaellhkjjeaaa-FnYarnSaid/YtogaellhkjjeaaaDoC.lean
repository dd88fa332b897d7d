/-
  The reference's small lists: a list of one's own, a number put to its place.
-/
import Derived.Test.YtogaellhkjjeaaaDoB
namespace Go.Proofs.Ytogaellhkjjeaaa
set_option linter.unusedVariables false
set_option linter.unusedSimpArgs false
open Go.RowKit

set_option maxHeartbeats 1000000 in
theorem l00OwnR_any (v : Value) (l : List Int) (w : World) (hl : RdI w w.heap.size v l) (hlen : l.length ≤ 1048576) :
    Calls Try.prog 144 #[v] w (GivesRow w 2 1 l.length (vI l)) := by
  obtain ⟨A, c, rfl⟩ := hl.len
  obtain ⟨i0, hi, hz0, hz1, hz2⟩ := info_parts info_int
  have HR := Lib.hid (hl.reads).1
  generalize hn : l.length = n at *
  have HN := Lib.hid hn
  clear hl hn
  go_enter Try.func144, Try.ntmps144
  go_wp2_with (at_builtin; refine wpList_append_any _ rfl _ _ _ rfl w.heap.size 2 i0 _ 1 8 Try.underlying27 hi hz0 hz1 hz2 rfl (by decide) _ 0 [] rfl (World.ownsRow_lit _ _ _ (Nat.le_refl _) (by unfold maxLen; omega) rfl) w.heap.size _ n c (vI l) rfl (HR.out.alloc (Nat.le_refl _) _) (vI_one l) (by unfold maxLen; omega) (by omega) (by simp) ?_)
  intro v1 w1 hown hg hat
  have HB := Lib.hid (((Below.refl w.heap.size w).alloc (Nat.le_refl _) _).grown hg (by simp) (fun kk hkk => by simp [Value.ownBlock] at hkk; omega))
  have HO : Hid (w1.ownsRow w.heap.size 2 1 v1 n (vI l)) := by unfold Hid; simpa using hown
  clear hown hg hat
  go_wp2
  go_ret
  exact ⟨_, rfl, HO.out, HB.out⟩

def putAcc (df : Bool) (acc t : List Int) (x : Int) : List Int := acc ++ (if df = true then t else putI t x)
section
variable {Y acc l : List Int} {k : Nat} {x y : Int} {df : Bool}
theorem put_done (h : Y = putAcc true acc (l.drop k) x) (hy : l[k]? = some y) : Y = putAcc true (acc ++ [y]) (l.drop (k + 1)) x := by
  rw [h, drop_of_get hy]; simp [putAcc]
theorem put_new (h : Y = putAcc false acc (l.drop k) x) (hy : l[k]? = some y) (h1 : x < y) : Y = putAcc true (acc ++ [x] ++ [y]) (l.drop (k + 1)) x := by
  rw [h, drop_of_get hy]; unfold putAcc; rw [if_neg (by decide), if_pos rfl, putI, if_pos (by omega), if_pos h1]; simp
theorem put_same (h : Y = putAcc false acc (l.drop k) x) (hy : l[k]? = some y) (h1 : x = y) : Y = putAcc true (acc ++ [y]) (l.drop (k + 1)) x := by
  rw [h, drop_of_get hy]; unfold putAcc; rw [if_neg (by decide), if_pos rfl, putI, if_pos (by omega), if_neg (by omega)]; simp
theorem put_later (h : Y = putAcc false acc (l.drop k) x) (hy : l[k]? = some y) (h1 : y < x) : Y = putAcc false (acc ++ [y]) (l.drop (k + 1)) x := by
  rw [h, drop_of_get hy]; unfold putAcc; rw [if_neg (by decide), if_neg (by decide), putI, if_neg (by omega)]; simp
theorem put_end (h : Y = putAcc true acc (l.drop k) x) (hk : l.length ≤ k) : Y = acc := by
  rw [h, List.drop_of_length_le hk]; simp [putAcc]
theorem put_end' (h : Y = putAcc false acc (l.drop k) x) (hk : l.length ≤ k) : Y = acc ++ [x] := by
  rw [h, List.drop_of_length_le hk]; simp [putAcc, putI]
end
theorem putI_len : ∀ (l : List Int) (n : Int), (putI l n).length ≤ l.length + 1
  | [], n => by simp [putI]
  | x :: t, n => by
    have := putI_len t n
    rw [putI]
    split
    · split <;> simp
    · simp; omega

set_option maxHeartbeats 4000000 in
theorem l00Put_any (v : Value) (l : List Int) (x : Int) (w : World) (hl : RdI w w.heap.size v l) (hlen : l.length ≤ 1048576) :
    Calls Try.prog 174 #[v, .int .i64 x] w (GivesRow w 2 1 (putI l x).length (vI (putI l x))) := by
  obtain ⟨i0, hi, hz0, hz1, hz2⟩ := info_parts info_int
  obtain ⟨A, n, c, rfl, hln, hl, gl⟩ := hl
  have HGL := Lib.hid gl
  have hl' := hl.out
  have HY := Lib.hid (show putI l x = putAcc false [] (l.drop 0) x by simp [putAcc])
  have hYl : n ≤ 1048576 := by omega
  generalize putI l x = Y at *
  clear gl hlen hl'
  go_enter Try.func174, Try.ntmps174
  go_wp2
  go_loopw [5, 6, 7] (fun t dn i wr => ∃ (k : Nat) (acc : List Int) (df : Bool), k ≤ n ∧ i = .int .i64 k ∧ dn = .bool df ∧ Hid (wr.ownsRow w.heap.size 2 1 t acc.length (vI acc)) ∧ acc.length ≤ k + 1 ∧ (df = false → acc.length ≤ k) ∧ Hid (Y = putAcc df acc (l.drop k) x) ∧ Hid (Below w.heap.size w wr)) (fun _ _ i _ => n - (intOf i).toNat)
  case atStart => exact ⟨0, [], false, Nat.zero_le _, rfl, rfl, World.ownsRow_lit _ _ _ (Nat.le_refl _) (by unfold maxLen; omega) rfl, by simp, by simp, HY.out, (Below.refl _ _).alloc (Nat.le_refl _) _⟩
  case round =>
    rename_i wr
    obtain ⟨k, acc, df, hk, rfl, rfl, HO, hak, hdf, HD, HB⟩ := hrel
    by_cases hlt : k < n
    · obtain ⟨b, off, y, rfl, hbb, hlk, hc⟩ := HGL.out k hlt
      have hc1 : wr.cell? ⟨b, off + k, none⟩ = some (.int .i64 y) := (HB.out.cell (p := ⟨b, off + k, none⟩) hbb).trans hc
      have HLK := Lib.hid hlk
      have HC1 := Lib.hid hc1
      have HBB := Lib.hid hbb
      clear hlk hc
      cases df
      · have hak' := hdf rfl
        clear hdf
        by_cases h1 : x ≤ y
        · by_cases h2 : x < y
          · have HN := Lib.hid (put_new HD.out HLK.out h2)
            -- a row acc of numbers (owned by HO.out from block w.heap.size on, the world told by HB.out) gets one number x more; new names end in 1
            go_wp2_with (at_builtin; refine wpList_append_own_at _ rfl _ _ 27 rfl w.heap.size 2 i0 _ 1 8 Try.underlying27 hi hz0 hz1 hz2 rfl (by decide) _ _ _ rfl (HO.out.alloc _) ⟨_, 0, none⟩ 1 1 [.int .i64 x] rfl rfl (new_cells' _ _ (by first | rfl | simp)) (int_one _) (by (try simp only [List.length_nil, List.length_append, List.length_singleton]); unfold maxLen; omega) (by (try simp only [List.length_nil, List.length_append, List.length_singleton]); omega) (by have := HB.out.size; (try simp at this); (try simp); omega) ?_)
            intro v1 w1 hown1 hgrow1 _ hat1
            have HB1 := Lib.hid (below_append' (HB.out.alloc HB.out.size _) (by have := HB.out.size; (try simp at this); (try simp); omega) HO.out (by simp) hgrow1)
            have HO1 : Hid (w1.ownsRow w.heap.size 2 1 v1 (acc ++ [x]).length (vI (acc ++ [x]))) := by unfold Hid; rw [vI_snoc, List.length_append]; first | exact hown1 | (have h9 := hown1; simp only [List.length_append, List.length_singleton] at h9 ⊢; exact h9)
            have hc2 : w1.cell? ⟨b, off + k, none⟩ = some (.int .i64 y) := ((HB1.out.cell (p := ⟨b, off + k, none⟩) hbb).trans ((HB.out.cell (p := ⟨b, off + k, none⟩) hbb).symm)).trans hc1
            clear hown1 hgrow1 hat1 hc1
            -- a row (acc ++ [x]) of numbers (owned by HO1.out from block w.heap.size on, the world told by HB1.out) gets one number y more; new names end in 2
            go_wp2_with (at_builtin; refine wpList_append_own_at _ rfl _ _ 27 rfl w.heap.size 2 i0 _ 1 8 Try.underlying27 hi hz0 hz1 hz2 rfl (by decide) _ _ _ rfl (HO1.out.alloc _) ⟨_, 0, none⟩ 1 1 [.int .i64 y] rfl rfl (new_cells' _ _ (by first | rfl | simp)) (int_one _) (by (try simp only [List.length_nil, List.length_append, List.length_singleton]); unfold maxLen; omega) (by (try simp only [List.length_nil, List.length_append, List.length_singleton]); omega) (by have := HB1.out.size; (try simp at this); (try simp); omega) ?_)
            intro v2 w2 hown2 hgrow2 _ hat2
            have HB2 := Lib.hid (below_append' (HB1.out.alloc HB1.out.size _) (by have := HB1.out.size; (try simp at this); (try simp); omega) HO1.out (by simp) hgrow2)
            have HO2 : Hid (w2.ownsRow w.heap.size 2 1 v2 ((acc ++ [x]) ++ [y]).length (vI ((acc ++ [x]) ++ [y]))) := by unfold Hid; rw [vI_snoc, List.length_append]; first | exact hown2 | (have h9 := hown2; simp only [List.length_append, List.length_singleton] at h9 ⊢; exact h9)
            clear hown2 hgrow2 hat2
            go_wp2
            exact ⟨⟨k + 1, acc ++ [x] ++ [y], true, by omega, by go_num, rfl, HO2.out, by simp; omega, by simp, HN.out, HB2.out⟩, by simp [intOf]; omega⟩
          · have HN := Lib.hid (put_same HD.out HLK.out (by omega))
            -- a row acc of numbers (owned by HO.out from block w.heap.size on, the world told by HB.out) gets one number y more; new names end in 1
            go_wp2_with (at_builtin; refine wpList_append_own_at _ rfl _ _ 27 rfl w.heap.size 2 i0 _ 1 8 Try.underlying27 hi hz0 hz1 hz2 rfl (by decide) _ _ _ rfl (HO.out.alloc _) ⟨_, 0, none⟩ 1 1 [.int .i64 y] rfl rfl (new_cells' _ _ (by first | rfl | simp)) (int_one _) (by (try simp only [List.length_nil, List.length_append, List.length_singleton]); unfold maxLen; omega) (by (try simp only [List.length_nil, List.length_append, List.length_singleton]); omega) (by have := HB.out.size; (try simp at this); (try simp); omega) ?_)
            intro v1 w1 hown1 hgrow1 _ hat1
            have HB1 := Lib.hid (below_append' (HB.out.alloc HB.out.size _) (by have := HB.out.size; (try simp at this); (try simp); omega) HO.out (by simp) hgrow1)
            have HO1 : Hid (w1.ownsRow w.heap.size 2 1 v1 (acc ++ [y]).length (vI (acc ++ [y]))) := by unfold Hid; rw [vI_snoc, List.length_append]; first | exact hown1 | (have h9 := hown1; simp only [List.length_append, List.length_singleton] at h9 ⊢; exact h9)
            clear hown1 hgrow1 hat1
            go_wp2
            exact ⟨⟨k + 1, acc ++ [y], true, by omega, by go_num, rfl, HO1.out, by simp; omega, by simp, HN.out, HB1.out⟩, by simp [intOf]; omega⟩
        · have HN := Lib.hid (put_later HD.out HLK.out (by omega))
          -- a row acc of numbers (owned by HO.out from block w.heap.size on, the world told by HB.out) gets one number y more; new names end in 1
          go_wp2_with (at_builtin; refine wpList_append_own_at _ rfl _ _ 27 rfl w.heap.size 2 i0 _ 1 8 Try.underlying27 hi hz0 hz1 hz2 rfl (by decide) _ _ _ rfl (HO.out.alloc _) ⟨_, 0, none⟩ 1 1 [.int .i64 y] rfl rfl (new_cells' _ _ (by first | rfl | simp)) (int_one _) (by (try simp only [List.length_nil, List.length_append, List.length_singleton]); unfold maxLen; omega) (by (try simp only [List.length_nil, List.length_append, List.length_singleton]); omega) (by have := HB.out.size; (try simp at this); (try simp); omega) ?_)
          intro v1 w1 hown1 hgrow1 _ hat1
          have HB1 := Lib.hid (below_append' (HB.out.alloc HB.out.size _) (by have := HB.out.size; (try simp at this); (try simp); omega) HO.out (by simp) hgrow1)
          have HO1 : Hid (w1.ownsRow w.heap.size 2 1 v1 (acc ++ [y]).length (vI (acc ++ [y]))) := by unfold Hid; rw [vI_snoc, List.length_append]; first | exact hown1 | (have h9 := hown1; simp only [List.length_append, List.length_singleton] at h9 ⊢; exact h9)
          clear hown1 hgrow1 hat1
          go_wp2
          exact ⟨⟨k + 1, acc ++ [y], false, by omega, by go_num, rfl, HO1.out, by simp; omega, by simp; omega, HN.out, HB1.out⟩, by simp [intOf]; omega⟩
      · have HN := Lib.hid (put_done HD.out HLK.out)
        clear hdf
        -- a row acc of numbers (owned by HO.out from block w.heap.size on, the world told by HB.out) gets one number y more; new names end in 1
        go_wp2_with (at_builtin; refine wpList_append_own_at _ rfl _ _ 27 rfl w.heap.size 2 i0 _ 1 8 Try.underlying27 hi hz0 hz1 hz2 rfl (by decide) _ _ _ rfl (HO.out.alloc _) ⟨_, 0, none⟩ 1 1 [.int .i64 y] rfl rfl (new_cells' _ _ (by first | rfl | simp)) (int_one _) (by (try simp only [List.length_nil, List.length_append, List.length_singleton]); unfold maxLen; omega) (by (try simp only [List.length_nil, List.length_append, List.length_singleton]); omega) (by have := HB.out.size; (try simp at this); (try simp); omega) ?_)
        intro v1 w1 hown1 hgrow1 _ hat1
        have HB1 := Lib.hid (below_append' (HB.out.alloc HB.out.size _) (by have := HB.out.size; (try simp at this); (try simp); omega) HO.out (by simp) hgrow1)
        have HO1 : Hid (w1.ownsRow w.heap.size 2 1 v1 (acc ++ [y]).length (vI (acc ++ [y]))) := by unfold Hid; rw [vI_snoc, List.length_append]; first | exact hown1 | (have h9 := hown1; simp only [List.length_append, List.length_singleton] at h9 ⊢; exact h9)
        clear hown1 hgrow1 hat1
        go_wp2
        exact ⟨⟨k + 1, acc ++ [y], true, by omega, by go_num, rfl, HO1.out, by simp; omega, by simp, HN.out, HB1.out⟩, by simp [intOf]; omega⟩
    · cases df
      · have HN := Lib.hid (put_end' HD.out (by have := hl.out; omega))
        -- a row acc of numbers (owned by HO.out from block w.heap.size on, the world told by HB.out) gets one number x more; new names end in 1
        go_wp2_with (at_builtin; refine wpList_append_own_at _ rfl _ _ 27 rfl w.heap.size 2 i0 _ 1 8 Try.underlying27 hi hz0 hz1 hz2 rfl (by decide) _ _ _ rfl (HO.out.alloc _) ⟨_, 0, none⟩ 1 1 [.int .i64 x] rfl rfl (new_cells' _ _ (by first | rfl | simp)) (int_one _) (by (try simp only [List.length_nil, List.length_append, List.length_singleton]); unfold maxLen; omega) (by (try simp only [List.length_nil, List.length_append, List.length_singleton]); omega) (by have := HB.out.size; (try simp at this); (try simp); omega) ?_)
        intro v1 w1 hown1 hgrow1 _ hat1
        have HB1 := Lib.hid (below_append' (HB.out.alloc HB.out.size _) (by have := HB.out.size; (try simp at this); (try simp); omega) HO.out (by simp) hgrow1)
        have HO1 : Hid (w1.ownsRow w.heap.size 2 1 v1 (acc ++ [x]).length (vI (acc ++ [x]))) := by unfold Hid; rw [vI_snoc, List.length_append]; first | exact hown1 | (have h9 := hown1; simp only [List.length_append, List.length_singleton] at h9 ⊢; exact h9)
        clear hown1 hgrow1 hat1
        go_wp2
        go_ret
        exact ⟨_, rfl, by rw [HN.out]; exact HO1.out, HB1.out⟩
      · have HN := Lib.hid (put_end HD.out (by have := hl.out; omega))
        go_wp2
        go_ret
        exact ⟨_, rfl, by rw [HN.out]; exact HO.out, HB.out⟩

end Go.Proofs.Ytogaellhkjjeaaa
