/-
  slices.Grow and slices.Concat at slices of slices: what Concat gives reads as the lists one behind the other.
-/
import Derived.Test.YtccdnmafakaleaaDoorMcTo
import Derived.Test.YtccdnmafakaleaaDoorAppend
import Derived.Test.YtccdnmafakaleaaDoorOwn
import Derived.Lib.AppendZeros
namespace Go.Proofs.YtccdnmafakaleaaDoor
set_option linter.unusedVariables false
set_option linter.unusedSimpArgs false
open Go.RowKit

/-- The headers hs read as the lists of l. -/
def HdrR (w : World) (B : Nat) (hs : List Value) (l : List (List Int)) : Prop := hs.length = l.length ∧ ∀ (k : Nat) (x : List Int), l[k]? = some x → ∃ s, hs[k]? = some s ∧ RdI w B s x ∧ CapOk s
theorem HdrR.nil {w : World} {B : Nat} : HdrR w B [] [] := ⟨rfl, fun k x h => by simp at h⟩
theorem HdrR.append {w : World} {B : Nat} {hs hs' : List Value} {l l' : List (List Int)} (h : HdrR w B hs l) (h' : HdrR w B hs' l') : HdrR w B (hs ++ hs') (l ++ l') := by
  refine ⟨by rw [List.length_append, List.length_append, h.1, h'.1], fun k x hx => ?_⟩
  by_cases hk : k < l.length
  · rw [List.getElem?_append_left hk] at hx
    obtain ⟨s, h1, h2⟩ := h.2 k x hx
    exact ⟨s, by rw [List.getElem?_append_left (by rw [h.1]; exact hk)]; exact h1, h2⟩
  · rw [List.getElem?_append_right (by omega)] at hx
    obtain ⟨s, h1, h2⟩ := h'.2 _ x hx
    exact ⟨s, by rw [List.getElem?_append_right (by rw [h.1]; omega), h.1]; exact h1, h2⟩
theorem HdrR.below {w w' : World} {B : Nat} {hs : List Value} {l : List (List Int)} (h : HdrR w B hs l) (hb : Below B w w') : HdrR w' B hs l :=
  ⟨h.1, fun k x hx => by
    obtain ⟨s, h1, h2, h3⟩ := h.2 k x hx
    exact ⟨s, h1, h2.below hb, h3⟩⟩
theorem RdI.keep {w w' : World} {B : Nat} {v : Value} {l : List Int} (h : RdI w B v l) (hk : ∀ p : Addr, p.block < B → w'.cell? p = w.cell? p) : RdI w' B v l := by
  obtain ⟨A, n, c, rfl, hn, hl, h⟩ := h
  refine ⟨A, n, c, rfl, hn, hl, fun k hkn => ?_⟩
  obtain ⟨b, off, x, h1, h2, h3, h4⟩ := h k hkn
  exact ⟨b, off, x, h1, h2, h3, (hk ⟨b, off + k, none⟩ h2).trans h4⟩
theorem HdrR.keep {w w' : World} {B : Nat} {hs : List Value} {l : List (List Int)} (h : HdrR w B hs l) (hk : ∀ p : Addr, p.block < B → w'.cell? p = w.cell? p) : HdrR w' B hs l :=
  ⟨h.1, fun k x hx => by
    obtain ⟨s, h1, h2, h3⟩ := h.2 k x hx
    exact ⟨s, h1, h2.keep hk, h3⟩⟩
theorem own_lo {w : World} {lo lo' e sz n : Nat} {v : Value} {xs : List Value} (h : w.ownsRow lo e sz v n xs) (hl : lo' ≤ lo) : w.ownsRow lo' e sz v n xs := by
  refine ⟨h.1, ?_⟩
  rcases h.2 with h2 | ⟨g, cap, cur, hv, hg, h3⟩
  · exact .inl h2
  · exact .inr ⟨g, cap, cur, hv, by omega, h3⟩
theorem RdLL.hdr {w : World} {B : Nat} {A : Option Addr} {n c : Nat} {l : List (List Int)} (h : RdLL w B (.slice A n c) l) : ∃ hs, Reads w B 1 A n hs ∧ HdrR w B hs l ∧ ∀ u ∈ hs, u.oneCell' = true := by
  obtain ⟨A', n', c', e, hn, hl, h⟩ := h
  injection e with e1 e2 e3
  subst e1 e2 e3
  have hE : ∀ k, k < n → ∃ s : Value, ∃ b off x, A = some ⟨b, off, none⟩ ∧ b < B ∧ l[k]? = some x ∧ w.cell? ⟨b, off + k, none⟩ = some s ∧ RdI w B s x ∧ CapOk s := by
    intro k hk
    obtain ⟨b, off, x, us, h1, h2, h3, h4, h5, s, rfl, h6, h7⟩ := h k hk
    have := h5 0 s rfl
    exact ⟨s, b, off, x, h1, h2, h3, by simpa using this, h6, h7⟩
  obtain ⟨hs, hlen, hall⟩ := build_list hE
  refine ⟨hs, ⟨by rw [hlen, Nat.mul_one], fun h0 => ?_⟩, ⟨by rw [hlen, hl.out], fun k x hx => ?_⟩, fun u hu => ?_⟩
  · obtain ⟨s, h1, b, off, x, rfl, hb, _⟩ := hall 0 h0
    refine ⟨_, rfl, hb, fun j u hu => ?_⟩
    have hj : j < n := by rw [← hlen]; exact (List.getElem?_eq_some_iff.1 hu).1
    obtain ⟨s', h1', b', off', x', e', hb', _, hc', _⟩ := hall j hj
    injection e' with e'
    injection e' with e1 e2
    subst e1 e2
    rw [hu] at h1'
    injection h1' with h1'
    subst h1'
    have ea : (⟨b, off, none⟩ : Addr).add j = ⟨b, off + j, none⟩ := by unfold Addr.add; split <;> simp_all
    rw [ea]
    exact hc'
  · have hk : k < n := by rw [← hl.out]; exact (List.getElem?_eq_some_iff.1 hx).1
    obtain ⟨s, h1, b, off, x', _, _, hx', _, h6, h7⟩ := hall k hk
    rw [hx] at hx'
    injection hx' with hx'
    subst hx'
    exact ⟨s, h1, h6, h7⟩
  · obtain ⟨k, hk, rfl⟩ := List.mem_iff_getElem.1 hu
    obtain ⟨s, h1, b, off, x', _, _, _, _, _, A1, n1, c1, rfl, _⟩ := hall k (by omega)
    rw [List.getElem?_eq_getElem hk] at h1
    injection h1 with h1
    rw [h1]; rfl
theorem RdLL.of_hdr {w : World} {lo hi B : Nat} {v : Value} {n : Nat} {hs : List Value} {l : List (List Int)} {E : TypeId} (h : OwC w lo hi E 1 v n hs) (hr : HdrR w B hs l) (hB : B ≤ hi) : RdLL w hi v l := by
  obtain ⟨A, c, rfl, hn, hc⟩ := h.cells
  have hl : hs.length = n := by have := h.1; omega
  refine ⟨A, n, c, rfl, hn, by rw [← hr.1]; exact hl, fun k hk => ?_⟩
  obtain ⟨g, rfl, h1, h2, h3, h4⟩ := hc k hk
  have hx : l[k]? = some (l[k]'(by rw [← hr.1]; omega)) := List.getElem?_eq_getElem _
  obtain ⟨s, g1, g2, g3⟩ := hr.2 k _ hx
  refine ⟨g, 0, _, [s], rfl, h2, hx, rfl, fun j u hu => ?_, s, rfl, g2.more hB, g3⟩
  rcases j with _ | j
  · simp at hu
    subst hu
    have := h4 k s (by omega) g1
    simpa using this
  · simp at hu

set_option maxHeartbeats 1000000 in
set_option maxRecDepth 100000 in
theorem grow_any (n : Nat) (hn : n ≤ 2097152) (w : World) : Calls Tryd.prog 89 #[.slice none 0 0, .int .i64 n] w fun e w' => ∃ v, e = .returned v ∧ w'.ownsRow w.heap.size 25 1 v 0 [] ∧ Below w.heap.size w w' := by
  obtain ⟨i0, hi, hz0, hz1, hz2⟩ := info_parts info_sl
  by_cases h0 : n = 0
  · subst h0
    go_enter Tryd.func89, Tryd.ntmps89
    go_wp2
    go_ret
    exact ⟨_, rfl, World.ownsRow_nil _ _ _ _, Below.refl _ _⟩
  · have hr := Lib.run_append_nil_zeros (P := Tryd.prog) w 22 3 22 25 i0 (.slice none 0 0) .i64 .i64 Tryd.underlying22 Tryd.underlying3 hi hz0 n (by omega) (by rw [hz1]; decide) (by omega) (by rw [hz2]; omega)
    have hcap := grownCap_ge w n 0 25
    have hcap2 := grownCap_le_maxLen w n 0 25 (by unfold maxLen; omega)
    have e0 : 0 < (n : Int) := by omega
    have HC := Lib.hid hcap
    have HC2 := Lib.hid hcap2
    have HR := Lib.hid hr
    clear hcap hcap2 hr
    go_enter Tryd.func89, Tryd.ntmps89
    go_wp2_with (at_builtin; refine Lib.wpList_append_run _ rfl _ _ _ _ rfl _ _ rfl rfl _ _ HR.out ?_)
    go_ret
    refine ⟨_, rfl, ⟨rfl, .inr ⟨w.heap.size, grownCap w n 0 25, _, rfl, Nat.le_refl _, heap_alloc_new w _, Nat.zero_le _, HC2.out, ?_, rfl⟩⟩, ((Below.refl _ _).alloc (Nat.le_refl _) _).drew⟩
    rw [Array.size_append, size_zeroCells, size_zeroCells]
    have := HC.out
    simp
    omega

theorem take_flat (Ls : List (List (List Int))) (k : Nat) {L : List (List Int)} (h : Ls[k]? = some L) : (Ls.take (k + 1)).flatten = (Ls.take k).flatten ++ L := by
  rw [List.take_add_one, h]; simp
theorem take_flat_le (Ls : List (List (List Int))) (k : Nat) : (Ls.take k).flatten.length ≤ Ls.flatten.length := by
  have : Ls.flatten = (Ls.take k).flatten ++ (Ls.drop k).flatten := by rw [← List.flatten_append, List.take_append_drop]
  rw [this, List.length_append]; omega

set_option maxHeartbeats 4000000 in
set_option maxRecDepth 100000 in
theorem concat_own (Vs : List Value) (Ls : List (List (List Int))) (g q c B : Nat) (w : World) (hB : B ≤ w.heap.size) (hq : Vs.length = q) (hq1 : Ls.length = q) (hq3 : q ≤ 3) (hg : g < w.heap.size) (hc : CellsAt w g 0 Vs)
    (hr : ∀ (j : Nat) (V : Value) (L : List (List Int)), Vs[j]? = some V → Ls[j]? = some L → ∃ A cp hs, V = .slice A L.length cp ∧ Reads w w.heap.size 1 A L.length hs ∧ HdrR w B hs L ∧ ∀ u ∈ hs, u.oneCell' = true) (hlen : Ls.flatten.length ≤ 1048576) :
    Calls Tryd.prog 64 #[.slice (some ⟨g, 0, none⟩) q c] w fun e w' => ∃ v hs, e = .returned v ∧ w'.ownsRow w.heap.size 25 1 v hs.length hs ∧ HdrR w' B hs Ls.flatten ∧ Below w.heap.size w w' := by
  obtain ⟨i0, hi, hz0, hz1, hz2⟩ := info_parts info_sl
  have HC := Lib.hid hc
  have HRR := Lib.hid hr
  have HQ := Lib.hid hq
  have HQ1 := Lib.hid hq1
  clear hc hr hq hq1
  have hat : ∀ k, k < q → ∃ A n cp L, Ls[k]? = some L ∧ L.length = n ∧ w.cell? ⟨g, k, none⟩ = some (.slice A n cp) ∧ (∃ hs, Reads w w.heap.size 1 A n hs ∧ HdrR w B hs L ∧ ∀ u ∈ hs, u.oneCell' = true) ∧ (Ls.take k).flatten.length + n ≤ 1048576 := by
    intro k hk
    have h1 : Vs[k]? = some (Vs[k]'(by rw [HQ.out]; exact hk)) := List.getElem?_eq_getElem _
    have h2 : Ls[k]? = some (Ls[k]'(by rw [HQ1.out]; exact hk)) := List.getElem?_eq_getElem _
    obtain ⟨A, cp, hs0, hv, h3⟩ := HRR.out k _ _ h1 h2
    have h4 := HC.out k _ h1
    rw [Nat.zero_add] at h4
    refine ⟨A, _, cp, _, h2, rfl, by rw [h4, hv], ⟨hs0, h3⟩, ?_⟩
    have h5 := take_flat_le Ls (k + 1)
    rw [take_flat Ls k h2, List.length_append] at h5
    omega
  have HAT := Lib.hid hat
  clear hat
  go_enter Tryd.func64, Tryd.ntmps64
  go_wp2
  go_loopw [3, 11] (fun t i wr => ∃ (k s : Nat), k ≤ q ∧ i = .int .i64 k ∧ t = .int .i64 s ∧ s ≤ 1048576 ∧ Hid (s = (Ls.take k).flatten.length) ∧ Below w.heap.size w wr) (fun _ i _ => q - (intOf i).toNat)
  case atStart => exact ⟨0, 0, Nat.zero_le _, rfl, rfl, by omega, by unfold Hid; simp, Below.refl _ _⟩
  case round =>
    rename_i wr
    obtain ⟨k, s, hk, rfl, rfl, hs, hd, hb⟩ := hrel
    by_cases hlt : k < q
    · obtain ⟨A, n, cp, L, h1, h2, h3, h4, h5⟩ := HAT.out k hlt
      have h3' : wr.cell? ⟨g, k, none⟩ = some (.slice A n cp) := (hb.cell (p := ⟨g, k, none⟩) hg).trans h3
      have hsn : s + n ≤ 1048576 := by rw [hd.out]; exact h5
      have HD := Lib.hid (show s + n = (Ls.take (k + 1)).flatten.length by rw [take_flat Ls k h1, List.length_append, hd.out, h2])
      have HB := Lib.hid hb
      clear hb hd h1 h2 h3 h4 h5
      go_wp2
      exact ⟨⟨k + 1, s + n, by omega, by go_num, by go_num, hsn, HD.out, HB.out⟩, by simp [intOf]; omega⟩
    · have HB := Lib.hid hb
      clear hb
      go_wp2_with fail
      refine (grow_any s (by omega) _).mono ?_
      rintro e w1 ⟨v1, rfl, hown, hb1⟩
      have HO := Lib.hid hown
      have HB1 := Lib.hid (HB.out.trans (hb1.mono HB.out.size))
      have HOz := Lib.hid HB.out.size
      clear hown hb1 hd
      go_wp2
      go_loopw [6, 27] (fun t i wr => ∃ (k : Nat) (hs : List Value) (W2 : World), W2 = wr ∧ k ≤ q ∧ i = .int .i64 k ∧ wr.ownsRow w.heap.size 25 1 t hs.length hs ∧ Hid (HdrR wr B hs (Ls.take k).flatten) ∧ Hid (hs.length ≤ 1048576) ∧ Below w.heap.size w wr) (fun _ i _ => q - (intOf i).toNat)
      case atStart => exact ⟨0, [], _, rfl, Nat.zero_le _, rfl, own_lo HO.out HOz.out, by unfold Hid; simpa using HdrR.nil, by unfold Hid; simp, HB1.out⟩
      case round =>
        obtain ⟨k2, hs2, wr2, hW2, hk2, rfl, hown, hhd, hle, hb⟩ := hrel
        subst hW2
        by_cases hlt2 : k2 < q
        · obtain ⟨A, n, cp, L, h1, h2, h3, h4, h5⟩ := HAT.out k2 hlt2
          have h3' : wr2.cell? ⟨g, k2, none⟩ = some (.slice A n cp) := (hb.cell (p := ⟨g, k2, none⟩) hg).trans h3
          obtain ⟨news, hrd0, hnd0, hone⟩ := h4
          have hrd := hrd0.below hb
          have hnd := hnd0.below (hb.mono hB)
          have HRD := Lib.hid hrd
          have HON := Lib.hid hone
          have HN := Lib.hid (show HdrR wr2 B (hs2 ++ news) (Ls.take (k2 + 1)).flatten by rw [take_flat Ls k2 h1]; exact hhd.out.append hnd)
          have hnl : news.length = n := by rw [hnd.1, h2]
          have hs2l : hs2.length = (Ls.take k2).flatten.length := hhd.out.1
          have HB := Lib.hid hb
          have HO2 := Lib.hid hown
          clear hb hhd h1 h3 hrd0 hnd0 hown hrd hone hnd
          go_wp2_with (at_builtin; refine wpList_append_any _ rfl _ _ _ rfl w.heap.size 25 i0 _ 1 24 Tryd.underlying22 hi hz0 hz1 hz2 rfl (by decide) _ _ _ rfl HO2.out w.heap.size A n cp news rfl HRD.out HON.out (by unfold maxLen; omega) (by omega) HB.out.size ?_; intro v3 w3 hown3 hg3 hat3)
          have hgb := HB.out.grown hg3 HB.out.size (fun kk hkk => (HO2.out.lt kk hkk).1)
          have hun : ∀ p : Addr, p.block < w.heap.size → w3.cell? p = wr2.cell? p := fun p hp => World.cell?_of_block (hg3.block p.block (by have := HB.out.size; omega) (fun e => by have := (HO2.out.lt _ e.symm).1; omega))
          have hHd := HN.out.keep fun p hp => hun p (by omega)
          have HG := Lib.hid hgb
          have HHD := Lib.hid hHd
          have HO3 : Hid (w3.ownsRow w.heap.size 25 1 v3 (hs2 ++ news).length (hs2 ++ news)) := by unfold Hid; rw [List.length_append, hnl]; exact hown3
          clear hgb hun hHd hown3 hg3 hat3
          go_wp2
          exact ⟨⟨k2 + 1, hs2 ++ news, _, rfl, by omega, by go_num, HO3.out, HHD.out, by unfold Hid; rw [List.length_append, hnl]; omega, HG.out⟩, by simp [intOf]; omega⟩
        · have HB := Lib.hid hb
          have HO2 := Lib.hid hown
          have HN := Lib.hid (show HdrR wr2 B hs2 Ls.flatten by have := hhd.out; rwa [List.take_of_length_le (by rw [HQ1.out]; omega)] at this)
          clear hb hown hhd
          go_wp2
          go_ret
          exact ⟨_, hs2, rfl, HO2.out, HN.out, HB.out⟩

theorem concat_any (Vs : List Value) (Ls : List (List (List Int))) (g q c : Nat) (w : World) (hq : Vs.length = q) (hq1 : Ls.length = q) (hq3 : q ≤ 3) (hg : g < w.heap.size) (hc : CellsAt w g 0 Vs)
    (hr : ∀ (j : Nat) (V : Value) (L : List (List Int)), Vs[j]? = some V → Ls[j]? = some L → RdLL w w.heap.size V L) (hlen : Ls.flatten.length ≤ 1048576) :
    Calls Tryd.prog 64 #[.slice (some ⟨g, 0, none⟩) q c] w fun e w' => ∃ v, e = .returned v ∧ RdLL w' w'.heap.size v Ls.flatten ∧ Below w.heap.size w w' :=
  (concat_own Vs Ls g q c w.heap.size w (Nat.le_refl _) hq hq1 hq3 hg hc (fun j V L h1 h2 => by
    have h3 := hr j V L h1 h2
    obtain ⟨A, cp, rfl⟩ := RdN.shape h3
    obtain ⟨hs, g1, g2, g3⟩ := RdLL.hdr h3
    exact ⟨A, cp, hs, rfl, g1, g2, g3⟩) hlen).mono fun e w' ⟨v, hs, h1, h2, h3, h4⟩ => ⟨v, h1, RdLL.of_hdr (OwC.of_own h2) h3 h4.size, h4⟩

end Go.Proofs.YtccdnmafakaleaaDoor
