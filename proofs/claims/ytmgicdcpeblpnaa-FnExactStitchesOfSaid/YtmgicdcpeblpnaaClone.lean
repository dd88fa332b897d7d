/-
  slices.Clone at events.
-/
import Derived.Test.YtmgicdcpeblpnaaAppend
import Derived.Test.YtmgicdcpeblpnaaStitches
namespace Go.Proofs.Ytmgicdcpeblpnaa
set_option linter.unusedVariables false
set_option linter.unusedSimpArgs false
open Go.RowKit

theorem vE_one (l : List Ev) : ∀ u ∈ vE l, u.oneCell' = true := by
  intro u hu
  obtain ⟨x, _, hx⟩ := List.mem_flatMap.1 hu
  exact cells_one x u hx

set_option maxHeartbeats 2000000 in
theorem cloneE_any (v : Value) (l : List Ev) (w : World) (hl : RdE w w.heap.size v l) (hlen : l.length ≤ 1048576) :
    Calls Try.prog 62 #[v] w (GivesRow w 68 6 l.length (vE l)) := by
  obtain ⟨i0, hi, hz0, hz1, hz2⟩ := info_parts info_ev
  have hl0 := hl
  obtain ⟨A, n, c, rfl, hln, hln', gl⟩ := hl
  obtain ⟨hr, hn⟩ := hl0.reads Ev.len (by omega)
  rw [hn] at hlen
  rcases A with _ | ad
  · have h0 : n = 0 := by
      rcases Nat.eq_zero_or_pos n with h | h
      · exact h
      · obtain ⟨b, off, x, hA, _⟩ := gl 0 h
        cases hA
    subst h0
    have hnil : l = [] := List.eq_nil_of_length_eq_zero hn
    subst hnil
    have hq := fun W => Lib.run_eql_slice_nil (P := Try.prog) W 32 68 none 0 c 0 0 Try.underlying32
    clear gl hl0 hr hln'
    go_enter Try.func62, Try.ntmps62
    go_wp2
    go_ret
    exact ⟨_, rfl, World.ownsRow_nil _ _ _ _, Below.refl _ _⟩
  · have hq := fun W => Lib.run_eql_slice_nil (P := Try.prog) W 32 68 (some ad) n c 0 0 Try.underlying32
    have HR := Lib.hid hr
    have HN := Lib.hid hn
    clear gl hl0 hr hln' hn
    go_enter Try.func62, Try.ntmps62
    go_wp2_with (at_builtin; refine wpList_append_any _ rfl (.tmp 5) (.tmp 6) _ rfl w.heap.size 68 i0 _ 6 48 Try.underlying32 hi hz0 hz1 hz2 rfl (by decide) _ 0 [] rfl (World.ownsRow_lit _ _ _ (Nat.le_refl _) (by unfold maxLen; omega) rfl) w.heap.size (some ad) n c (vE l) rfl (HR.out.alloc (Nat.le_refl _) _) (vE_one l) (by unfold maxLen; omega) (by omega) (by simp) ?_; intro v1 w1 hown hg hat)
    go_ret
    refine ⟨v1, rfl, by rw [HN.out]; simpa using hown, ((Below.refl _ _).alloc (Nat.le_refl _) _).grown hg (by simp) (fun k hk => ?_)⟩
    have hk' : some w.heap.size = some k := hk
    injection hk' with hk'
    omega

end Go.Proofs.Ytmgicdcpeblpnaa
