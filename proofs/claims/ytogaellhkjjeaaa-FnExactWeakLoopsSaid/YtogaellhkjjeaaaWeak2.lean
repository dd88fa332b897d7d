/-
  WeakLoops of the program and of the reference.
-/
import Derived.Test.YtogaellhkjjeaaaMcRun
import Derived.Test.YtogaellhkjjeaaaWeak0
import Derived.Test.YtogaellhkjjeaaaWeak1
namespace Go.Proofs.Ytogaellhkjjeaaa
set_option linter.unusedVariables false
set_option linter.unusedSimpArgs false
open Go.RowKit

section
variable {key : Int → Nat} {R out l : List Int} {best k : Nat} {x : Int}
theorem wk_more (h : R = wkGo key best out (l.drop k)) (hx : l[k]? = some x) (h1 : best < key x) : R = wkGo key (key x) ([] ++ [x]) (l.drop (k + 1)) := by
  rw [h, drop_of_get hx, wkGo, if_pos h1]
  rfl
theorem wk_same (h : R = wkGo key best out (l.drop k)) (hx : l[k]? = some x) (h1 : key x = best) : R = wkGo key best (out ++ [x]) (l.drop (k + 1)) := by
  rw [h, drop_of_get hx, wkGo, if_neg (by omega), if_pos h1]
theorem wk_less (h : R = wkGo key best out (l.drop k)) (hx : l[k]? = some x) (h1 : ¬ best < key x) (h2 : ¬ key x = best) : R = wkGo key best out (l.drop (k + 1)) := by
  rw [h, drop_of_get hx, wkGo, if_neg h1, if_neg h2]
theorem wk_end (h : R = wkGo key best out (l.drop k)) (hk : l.length ≤ k) : R = out := by
  rw [h, List.drop_of_length_le hk, wkGo]
end

section
variable {key : Int → Nat} {R out t : List Int} {best : Nat} {x : Int}
theorem wkc_more (h : R = wkGo key best out (x :: t)) (h1 : best < key x) : R = wkGo key (key x) ([] ++ [x]) t := by
  rw [h, wkGo, if_pos h1]
  rfl
theorem wkc_same (h : R = wkGo key best out (x :: t)) (h1 : key x = best) : R = wkGo key best (out ++ [x]) t := by
  rw [h, wkGo, if_neg (by omega), if_pos h1]
theorem wkc_less (h : R = wkGo key best out (x :: t)) (h1 : ¬ best < key x) (h2 : ¬ key x = best) : R = wkGo key best out t := by
  rw [h, wkGo, if_neg h1, if_neg h2]
end
def refF (m : Mc) (k : Nat) : List Int := (((List.range m.ls.length).drop k).map fun i : Nat => (i : Int)).filter (hasB (liveL m))
theorem ref_cons {m : Mc} {k : Nat} (hk : k < m.ls.length) : ((List.range m.ls.length).drop k) = k :: (List.range m.ls.length).drop (k + 1) := drop_of_get (by rw [List.getElem?_range hk])
theorem ref_yes {m : Mc} {k : Nat} (hk : k < m.ls.length) (h : (liveL m).contains (k : Int) = true) : refF m k = (k : Int) :: refF m (k + 1) := by
  unfold refF
  rw [ref_cons hk, List.map_cons, List.filter_cons, if_pos (show hasB (liveL m) (k : Int) = true from h)]
theorem ref_no {m : Mc} {k : Nat} (hk : k < m.ls.length) (h : (liveL m).contains (k : Int) = false) : refF m k = refF m (k + 1) := by
  unfold refF
  rw [ref_cons hk, List.map_cons, List.filter_cons, if_neg (by show ¬ (liveL m).contains (k : Int) = true; rw [h]; decide)]
theorem ref_end {m : Mc} {k : Nat} (hk : m.ls.length ≤ k) : refF m k = [] := by
  unfold refF
  rw [List.drop_of_length_le (by simpa using hk)]
  rfl
theorem Only.grownBy {lo hi : Nat} {a w w' : World} {row : Option Nat} (h : Only lo hi a w) (hg : w.grownBy w' row) (hr : ∀ g, row = some g → (lo ≤ g ∧ g < hi) ∨ a.heap.size ≤ g) : Only lo hi a w' :=
  ⟨hg.os.trans h.os, hg.tape.trans h.tape, hg.output.trans h.output, Nat.le_trans h.size hg.size, fun k hk hd => (hg.block k (Nat.lt_of_lt_of_le hk h.size) (fun e => by rcases hr k e.symm with h | h <;> omega)).trans (h.block k hk hd)⟩

set_option maxHeartbeats 8000000 in
set_option maxRecDepth 100000 in
theorem implWeak_any (v : Value) (m : Mc) (w : World) (hl : RdM w w.heap.size v m) (hf : FitM m) :
    Calls Try.prog 56 #[v] w (GivesC w 2 1 (okList (okC m) (weakL m)).length (vI (okList (okC m) (weakL m))) (okC m)) := by
  obtain ⟨i0, hi, hz0, hz1, hz2⟩ := info_parts info_int
  have hdr := hf.dr
  have hl0 := hl
  obtain ⟨f, b, cs, ls, d, rfl, h1, h2, h3, h4, h5, h6⟩ := hl
  obtain ⟨AF, cF, rfl⟩ := RdN.shape h1
  obtain ⟨AG, cG, rfl⟩ := RdN.shape h2
  obtain ⟨AC, cC, rfl⟩ := RdS.lens h3
  obtain ⟨AI, cI, rfl⟩ := RdN.shape h4
  obtain ⟨AD, cD, rfl⟩ := RdI.len h5
  have BW := Lib.hid (show Below w.heap.size w (w.alloc (.cells #[.int .i64 m.wd, .int .i64 m.rk, .slice AF m.fr.length cF, .slice AG m.bk.length cG, .slice AC m.cs.length cC, .slice AI m.ls.length cI, .slice AD m.dr.length cD] 29)) from (Below.refl _ _).alloc (Nat.le_refl _) _)
  have HP := Lib.hid (RdP.box (T := 29) h1 h2 h3 h4 h5 h6)
  have HM := Lib.hid (hl0.up BW.out BW.out.size)
  clear h1 h2 h3 h4 h5 h6 hl0
  have HQ := Lib.hid (validMachine_any _ m _ HM.out)
  cases hok : okM m
  · have HN := Lib.hid (fun w' hb => (show Below w.heap.size w w' → GivesC w 2 1 (okList (okC m) (weakL m)).length (vI (okList (okC m) (weakL m))) (okC m) (.returned (.tuple #[.slice none 0 0, .int .i64 1])) w' from fun hb => by rw [okC_no hok]; exact GivesC.nil (by decide) rfl hb) hb)
    have HK := Lib.hid hok
    clear hok
    go_enter Try.func56, Try.ntmps56
    go_wp2_with fail
    refine HQ.out.mono ?_
    rintro e w1 ⟨rfl, hb⟩
    rw [HK.out]
    have HB := Lib.hid (BW.out.trans (hb.mono BW.out.size))
    clear hb
    go_wp2
    go_ret2
    exact HN.out _ HB.out
  have HOK := Lib.hid hok
  have h300 := ls_len hok
  clear hok
  go_enter Try.func56, Try.ntmps56
  go_wp2_with fail
  refine HQ.out.mono ?_
  rintro e w1 ⟨rfl, hb⟩
  rw [HOK.out]
  have HB := Lib.hid (BW.out.trans (hb.mono BW.out.size))
  have HP1 := Lib.hid (HP.out.below hb)
  clear hb HM HP HQ
  have HA := Lib.hid ((Below.refl w1.heap.size w1).alloc (Nat.le_refl _) (.cells #[] 2))
  have HPA := Lib.hid (HP1.out.below HA.out)
  go_wp2_with fail
  refine (live_any m _ _ HPA.out HOK.out).mono ?_
  rintro e w2 ⟨v2, rfl, ho, hb⟩
  obtain ⟨A2, c2, rfl, -, hcell⟩ := ho.cells
  have hz2' : w1.heap.size + 1 ≤ w2.heap.size := by have := hb.size; simpa using this
  have HB2 := Lib.hid (HA.out.trans (hb.mono (by simp)))
  have HW0 : Hid (w2.ownsRow w1.heap.size 2 1 (.slice (some ⟨w1.heap.size, 0, none⟩) 0 0) ([] : List Int).length (vI [])) := own_below (World.ownsRow_lit _ _ _ (Nat.le_refl _) (by unfold maxLen; omega) rfl) hb
  have h240 := liveL_len HOK.out
  have HC := Lib.hid (fun (k : Nat) (y : Int) (hy : (liveL m)[k]? = some y) => show ∃ gl, A2 = some ⟨gl, 0, none⟩ ∧ w1.heap.size < gl ∧ gl < w2.heap.size ∧ w2.cell? ⟨gl, k, none⟩ = some (.int .i64 y) by
    obtain ⟨gl, e, h1, h2, h3, h4⟩ := hcell k (List.getElem?_eq_some_iff.1 hy).1
    refine ⟨gl, e, by have : w1.heap.size + 1 ≤ gl := by simpa using h1
                      omega, h2, ?_⟩
    exact h4 k (.int .i64 y) (by have := (List.getElem?_eq_some_iff.1 hy).1; omega) (by show (List.map (Value.int .i64) _)[k]? = _; rw [List.getElem?_map, hy]; rfl))
  have HLR := Lib.hid (fun (k : Nat) (y : Int) (hy : (liveL m)[k]? = some y) => liveL_rng HOK.out (List.mem_of_getElem? hy))
  clear ho hb hcell
  have HWS := Lib.hid (weak_sort HOK.out)
  generalize hR : wkGo (weakK m) 0 [] (liveL m) = R at *
  have HR := Lib.hid (show R = wkGo (weakK m) 0 [] ((liveL m).drop 0) from hR.symm)
  generalize hL : liveL m = L at *
  generalize hN : L.length = N at *
  have HN := Lib.hid hN
  clear hR hL hN
  go_wp2
  go_loopw [4, 5, 15] (fun bv ov i wr => ∃ (k best : Nat) (out : List Int) (g0 c0 : Nat), k ≤ N ∧ i = .int .i64 k ∧ bv = .int .i64 best ∧ ov = .slice (some ⟨g0, 0, none⟩) out.length c0 ∧ Hid (wr.ownsRow w1.heap.size 2 1 (.slice (some ⟨g0, 0, none⟩) out.length c0) out.length (vI out)) ∧ Hid (R = wkGo (weakK m) best out (L.drop k)) ∧ out.length ≤ k ∧
    Hid (g0 = w1.heap.size ∨ w2.heap.size ≤ g0) ∧ Hid (Only w1.heap.size (w1.heap.size + 1) w2 wr) ∧ Hid (Below w1.heap.size w1 wr)) (fun _ _ i _ => N - (intOf i).toNat)
  case atStart => exact ⟨0, 0, [], w1.heap.size, 0, Nat.zero_le _, rfl, rfl, rfl, HW0.out, HR.out, Nat.le_refl _, .inl rfl, Only.refl _ _ _, HB2.out⟩
  case round =>
    rename_i wr
    obtain ⟨k, best, out, g0, c0, hk, rfl, rfl, rfl, HO, HD, hok, HG, HT, HBr⟩ := hrel
    by_cases hlt : k < N
    · have hlk : L[k]? = some (L[k]'(by have := HN.out; omega)) := List.getElem?_eq_getElem _
      generalize L[k]'(by have := HN.out; omega) = y at hlk
      obtain ⟨gl, rfl, hl1, hl2, hc⟩ := HC.out k y hlk
      have hcw := (World.cell?_of_block (a := ⟨gl, k, none⟩) (HT.out.block gl hl2 (.inr hl1))).trans hc
      obtain ⟨hy0, hy1⟩ := HLR.out k y hlk
      have HPr := Lib.hid (HP1.out.below HBr.out)
      have HM1 := Lib.hid (fun h => wk_more HD.out hlk h)
      have HM2 := Lib.hid (fun h => wk_same HD.out hlk h)
      have HM3 := Lib.hid (fun h h' => wk_less HD.out hlk h h')
      have HY := Lib.hid (And.intro hy0 hy1)
      clear hc hlk hy0 hy1
      go_wp2_with fail
      refine (runOf_any m _ y _ HPr.out HOK.out HY.out.1 HY.out.2).mono ?_
      rintro e w3 ⟨v3, rfl, ho3, hb3⟩
      obtain ⟨A3, c3, rfl, -⟩ := ho3.cells
      have HB3 := Lib.hid (HBr.out.trans (hb3.mono HBr.out.size))
      have HO3 := Lib.hid (own_below HO.out hb3)
      have HT3 := Lib.hid (HT.out.trans (Only.of_below hb3))
      have hz3 := HT3.out.size
      clear ho3 hb3 hcw
      have HK := Lib.hid (show weakK m y = (runL m y).length from rfl)
      generalize (runL m y).length = K at *
      rw [HK.out] at HM1 HM2 HM3
      by_cases h1 : best < K
      · have h1' : (best : Int) < (K : Int) := by omega
        have HM := Lib.hid (HM1.out h1)
        have hnil : w3.ownsRow w1.heap.size 2 1 (.slice none 0 0) ([] : List Int).length (vI []) := World.ownsRow_nil _ _ _ _
        have HNIL := Lib.hid hnil
        clear hnil HM1 HM2 HM3
        -- ([] : List Int) (a row HNIL.out of the call's own at the world of which HB3.out is known, the new block: w3.heap.size) gets one loop y more
        go_wp2_with (at_builtin; refine wpList_append_own_at _ rfl _ _ 27 rfl w1.heap.size 2 i0 _ 1 8 Try.underlying27 hi hz0 hz1 hz2 rfl (by decide) _ _ _ rfl (HNIL.out.alloc _) ⟨w3.heap.size, 0, none⟩ 1 1 [.int .i64 y] rfl rfl ?c1 ?c2 ?c3 ?c4 ?c5 ?_)
        case c1 => exact new_cells' _ _ (by first | rfl | simp)
        case c2 => exact int_one _
        case c3 => (try simp only [List.length_nil]); unfold maxLen; omega
        case c4 => (try simp only [List.length_nil]); omega
        case c5 => have := HB3.out.size; (try simp at this); (try simp); omega
        intro v' w4 hown4 hgrow4 _ hat4
        have HB4 := Lib.hid (below_append' (HB3.out.alloc HB3.out.size _) (by have := HB3.out.size; (try simp at this); (try simp); omega) HNIL.out (by simp) hgrow4)
        have HO4 : Hid (w4.ownsRow w1.heap.size 2 1 v' (([] : List Int) ++ [y]).length (vI (([] : List Int) ++ [y]))) := by unfold Hid; rw [vI_snoc, List.length_append]; exact hown4
        obtain ⟨b4, c4, rfl, hb4, hb4', hnc4, hob4⟩ := row_slice HO4.out (by simp)
        have HG4 := Lib.hid (show w2.heap.size ≤ b4 by
          rcases hat4 with h | h
          · rw [hob4] at h; cases h
          · rw [hob4] at h; injection h with h; first | (simp at h; omega) | omega)
        have HT4 := Lib.hid ((HT3.out.alloc _).grownBy hgrow4 (fun g hg => by cases hg))
        clear hgrow4 hown4 hat4
        go_wp2
        exact ⟨⟨k + 1, K, [] ++ [y], b4, c4, by omega, by go_num, rfl, rfl, HO4.out, HM.out, by simp, .inr HG4.out, HT4.out, HB4.out⟩, by simp [intOf]; omega⟩
      · have h1' : ¬ (best : Int) < (K : Int) := by omega
        have HMA := Lib.hid (HM2.out)
        by_cases h2 : K = best
        · have HM := Lib.hid (HM2.out h2)
          subst h2
          clear HM1 HM2 HM3 HMA h1
          -- out (a row HO3.out of the call's own at the world of which HB3.out is known, the new block: w3.heap.size) gets one loop y more
          go_wp2_with (at_builtin; refine wpList_append_own_at _ rfl _ _ 27 rfl w1.heap.size 2 i0 _ 1 8 Try.underlying27 hi hz0 hz1 hz2 rfl (by decide) _ _ _ rfl (HO3.out.alloc _) ⟨w3.heap.size, 0, none⟩ 1 1 [.int .i64 y] rfl rfl ?c1 ?c2 ?c3 ?c4 ?c5 ?_)
          case c1 => exact new_cells' _ _ (by first | rfl | simp)
          case c2 => exact int_one _
          case c3 => (try simp only [List.length_nil]); unfold maxLen; omega
          case c4 => (try simp only [List.length_nil]); omega
          case c5 => have := HB3.out.size; (try simp at this); (try simp); omega
          intro v' w4 hown4 hgrow4 _ hat4
          have HB4 := Lib.hid (below_append' (HB3.out.alloc HB3.out.size _) (by have := HB3.out.size; (try simp at this); (try simp); omega) HO3.out (by simp) hgrow4)
          have HO4 : Hid (w4.ownsRow w1.heap.size 2 1 v' (out ++ [y]).length (vI (out ++ [y]))) := by unfold Hid; rw [vI_snoc, List.length_append]; exact hown4
          obtain ⟨b4, c4, rfl, hb4, hb4', hnc4, hob4⟩ := row_slice HO4.out (by simp)
          have HG4 := Lib.hid (show b4 = w1.heap.size ∨ w2.heap.size ≤ b4 by
            rcases hat4 with h | h
            · rw [hob4] at h
              injection h with h
              rw [h]
              exact HG.out
            · rw [hob4] at h; injection h with h; exact .inr (by first | (simp at h; omega) | omega))
          have HT4 := Lib.hid ((HT3.out.alloc _).grownBy hgrow4 (fun g hg => by have hg' : g0 = g := (by simpa [Value.ownBlock] using hg); subst hg'; rcases HG.out with h | h; exact .inl ⟨by omega, by omega⟩; exact .inr h))
          clear hgrow4 hown4 hat4
          go_wp2
          exact ⟨⟨k + 1, K, out ++ [y], b4, c4, by omega, by go_num, rfl, rfl, HO4.out, HM.out, by simp; omega, HG4.out, HT4.out, HB4.out⟩, by simp [intOf]; omega⟩
        · have HM := Lib.hid (HM3.out h1 h2)
          have h2' : ((K : Int) == (best : Int)) = false := by simpa using fun e => h2 (by omega)
          clear HM1 HM2 HM3 HMA
          go_wp2
          exact ⟨⟨k + 1, best, out, g0, c0, by omega, by go_num, rfl, rfl, HO3.out, HM.out, by omega, HG.out, HT3.out, HB3.out⟩, by simp [intOf]; omega⟩
    · have HE := Lib.hid (wk_end HD.out (by have := HN.out; omega))
      have hsrt := sortI_any g0 c0 out wr w1.heap.size _ HO.out (by omega)
      rw [← HE.out, HWS.out] at hsrt
      have hlen : (weakL m).length = R.length := by rw [← HWS.out, List.length_mergeSort]
      have HS := Lib.hid hsrt
      have HLE := Lib.hid hlen
      have hge : w1.heap.size ≤ g0 := by rcases HG.out with h | h <;> omega
      rw [← HE.out]
      clear hsrt hlen
      go_wp2_with fail
      refine HS.out.mono ?_
      rintro e w5 ⟨rfl, hown5, hg5⟩
      rw [← HLE.out] at hown5
      have HO5 := Lib.hid ((OwC.of_own hown5).lo HB.out.size)
      have HB5 := Lib.hid (HB.out.trans ((HBr.out.grown hg5 HBr.out.size (fun k hk => by injection hk with hk; omega)).mono HB.out.size))
      clear hown5 hg5
      go_wp2
      go_ret2
      rw [← HLE.out]
      exact GivesC.yes (okC_yes HOK.out) rfl HO5.out HB5.out

set_option maxHeartbeats 8000000 in
set_option maxRecDepth 100000 in
theorem specWeak_any (v : Value) (m : Mc) (w : World) (hl : RdM w w.heap.size v m) (hf : FitM m) :
    Calls Try.prog 55 #[v] w (GivesC w 2 1 (okList (okC m) (weakL m)).length (vI (okList (okC m) (weakL m))) (okC m)) := by
  obtain ⟨i0, hi, hz0, hz1, hz2⟩ := info_parts info_int
  have hdr := hf.dr
  have hl0 := hl
  obtain ⟨f, b, cs, ls, d, rfl, h1, h2, h3, h4, h5, h6⟩ := hl
  obtain ⟨AF, cF, rfl⟩ := RdN.shape h1
  obtain ⟨AG, cG, rfl⟩ := RdN.shape h2
  obtain ⟨AC, cC, rfl⟩ := RdS.lens h3
  obtain ⟨AI, cI, rfl⟩ := RdN.shape h4
  obtain ⟨AD, cD, rfl⟩ := RdI.len h5
  have BW := Lib.hid (show Below w.heap.size w (w.alloc (.cells #[.int .i64 m.wd, .int .i64 m.rk, .slice AF m.fr.length cF, .slice AG m.bk.length cG, .slice AC m.cs.length cC, .slice AI m.ls.length cI, .slice AD m.dr.length cD] 29)) from (Below.refl _ _).alloc (Nat.le_refl _) _)
  have HP := Lib.hid (RdP.box (T := 29) h1 h2 h3 h4 h5 h6)
  have HM := Lib.hid (hl0.up BW.out BW.out.size)
  clear h1 h2 h3 h4 h5 h6 hl0
  have HQ := Lib.hid (l07Ok_p m _ _ HP.out hdr)
  cases hok : okM m
  · have HN := Lib.hid (fun w' hb => (show Below w.heap.size w w' → GivesC w 2 1 (okList (okC m) (weakL m)).length (vI (okList (okC m) (weakL m))) (okC m) (.returned (.tuple #[.slice none 0 0, .int .i64 1])) w' from fun hb => by rw [okC_no hok]; exact GivesC.nil (by decide) rfl hb) hb)
    have HK := Lib.hid hok
    clear hok
    go_enter Try.func55, Try.ntmps55
    go_wp2_with fail
    refine HQ.out.mono ?_
    rintro e w1 ⟨rfl, hb⟩
    rw [HK.out]
    have HB := Lib.hid (BW.out.trans (hb.mono BW.out.size))
    clear hb
    go_wp2
    go_ret2
    exact HN.out _ HB.out
  have HOK := Lib.hid hok
  have h300 := ls_len hok
  clear hok
  go_enter Try.func55, Try.ntmps55
  go_wp2_with fail
  refine HQ.out.mono ?_
  rintro e w1 ⟨rfl, hb⟩
  rw [HOK.out]
  have HB := Lib.hid (BW.out.trans (hb.mono BW.out.size))
  have HP1 := Lib.hid (HP.out.below hb)
  clear hb HM HP HQ
  have HA := Lib.hid ((Below.refl w1.heap.size w1).alloc (Nat.le_refl _) (.cells #[] 2))
  have HW0 : Hid ((w1.alloc (.cells #[] 2)).ownsRow w1.heap.size 2 1 (.slice (some ⟨w1.heap.size, 0, none⟩) 0 0) ([] : List Int).length (vI [])) := World.ownsRow_lit _ _ _ (Nat.le_refl _) (by unfold maxLen; omega) rfl
  generalize hR : weakL m = R
  have HR0 := Lib.hid hR
  have HR := Lib.hid (show R = wkGo (weakK m) 0 [] (refF m 0) by rw [← hR]; rfl)
  clear hR
  go_wp2
  go_loopw [4, 5, 6] (fun ov bv i wr => ∃ (k best : Nat) (out : List Int), k ≤ m.ls.length ∧ i = .int .i64 k ∧ bv = .int .i64 best ∧ Hid (wr.ownsRow w1.heap.size 2 1 ov out.length (vI out)) ∧ Hid (R = wkGo (weakK m) best out (refF m k)) ∧ out.length ≤ k ∧ Hid (Below w1.heap.size w1 wr)) (fun _ _ i _ => m.ls.length - (intOf i).toNat)
  case atStart => exact ⟨0, 0, [], Nat.zero_le _, rfl, rfl, HW0.out, HR.out, Nat.le_refl _, HA.out⟩
  case round =>
    rename_i wr
    obtain ⟨k, best, out, hk, rfl, rfl, HO, HD, hok, HBr⟩ := hrel
    have HPr := Lib.hid (HP1.out.below HBr.out)
    obtain ⟨F, G, C, LL, D, hc, h1, h2, h3, h4, h5, h6⟩ := HPr.out
    obtain ⟨AI, cI, rfl⟩ := RdN.shape h4
    obtain ⟨s0, s1, s2, s3, s4, s5, s6⟩ := hc.seven
    clear hc h1 h2 h3 h4 h5 h6
    by_cases hlt : k < m.ls.length
    · go_wp2_with fail
      refine (l07Live_any m _ _ HPr.out HOK.out).mono ?_
      rintro e w2 ⟨v2, rfl, ho2, hb2⟩
      have HL2 := Lib.hid (RdI.of_own ho2)
      have HB2 := Lib.hid (HBr.out.trans (hb2.mono HBr.out.size))
      have HO2 := Lib.hid (own_below HO.out hb2)
      have HP2 := Lib.hid (HPr.out.below hb2)
      clear ho2 hb2 s0 s1 s2 s3 s4 s5 s6
      go_wp2_with fail
      refine (l00Has_any v2 (liveL m) k _ HL2.out).mono ?_
      rintro e w2a ⟨rfl, hb2⟩
      have HB3 := Lib.hid (HB2.out.trans (hb2.mono HB2.out.size))
      have HO3 := Lib.hid (own_below HO2.out hb2)
      have HP3 := Lib.hid (HP2.out.below hb2)
      clear hb2
      cases hh : (liveL m).contains (k : Int)
      · have HM := Lib.hid (show R = wkGo (weakK m) best out (refF m (k + 1)) by rw [HD.out, ref_no hlt hh])
        go_wp2
        exact ⟨⟨k + 1, best, out, by omega, by go_num, rfl, HO3.out, HM.out, by omega, HB3.out⟩, by simp [intOf]; omega⟩
      have HC := Lib.hid (show R = wkGo (weakK m) best out ((k : Int) :: refF m (k + 1)) by rw [HD.out, ref_yes hlt hh])
      clear hh
      go_wp2_with fail
      refine (l12Run_any m _ k _ HP3.out HOK.out).mono ?_
      rintro e w3 ⟨v3, rfl, ho3, hb3⟩
      obtain ⟨A3, c3, rfl, -⟩ := ho3.cells
      have HB5 := Lib.hid (HB3.out.trans (hb3.mono HB3.out.size))
      have HO5 := Lib.hid (own_below HO3.out hb3)
      clear ho3 hb3
      have HK := Lib.hid (show weakK m k = (runL m k).length from rfl)
      have HM1 := Lib.hid (fun h => wkc_more HC.out h)
      have HM2 := Lib.hid (fun h => wkc_same HC.out h)
      have HM3 := Lib.hid (fun h h' => wkc_less HC.out h h')
      generalize (runL m k).length = K at *
      rw [HK.out] at HM1 HM2 HM3
      by_cases h1 : best < K
      · have h1' : (best : Int) < (K : Int) := by omega
        have HM := Lib.hid (HM1.out h1)
        have HX := Lib.hid (HB5.out.alloc HB5.out.size (.cells #[] 2))
        have HOX : Hid ((w3.alloc (.cells #[] 2)).ownsRow w1.heap.size 2 1 (.slice (some ⟨w3.heap.size, 0, none⟩) 0 0) ([] : List Int).length (vI [])) := World.ownsRow_lit _ _ _ HB5.out.size (by unfold maxLen; omega) rfl
        clear HM1 HM2 HM3
        -- ([] : List Int) (a row HOX.out of the call's own at the world of which HX.out is known, the new block: w3.heap.size + 1) gets one loop (k : Int) more
        go_wp2_with (at_builtin; refine wpList_append_own_at _ rfl _ _ 27 rfl w1.heap.size 2 i0 _ 1 8 Try.underlying27 hi hz0 hz1 hz2 rfl (by decide) _ _ _ rfl (HOX.out.alloc _) ⟨w3.heap.size + 1, 0, none⟩ 1 1 [.int .i64 (k : Int)] rfl rfl ?c1 ?c2 ?c3 ?c4 ?c5 ?_)
        case c1 => exact new_cells' _ _ (by first | rfl | simp)
        case c2 => exact int_one _
        case c3 => (try simp only [List.length_nil]); unfold maxLen; omega
        case c4 => (try simp only [List.length_nil]); omega
        case c5 => have := HX.out.size; (try simp at this); (try simp); omega
        intro v' w4 hown4 hgrow4 _ hat4
        have HB4 := Lib.hid (below_append' (HX.out.alloc HX.out.size _) (by have := HX.out.size; (try simp at this); (try simp); omega) HOX.out (by simp) hgrow4)
        have HO4 : Hid (w4.ownsRow w1.heap.size 2 1 v' (([] : List Int) ++ [(k : Int)]).length (vI (([] : List Int) ++ [(k : Int)]))) := by unfold Hid; rw [vI_snoc, List.length_append]; exact hown4
        clear hgrow4 hown4 hat4
        go_wp2
        exact ⟨⟨k + 1, K, [] ++ [(k : Int)], by omega, by go_num, rfl, HO4.out, HM.out, by simp, HB4.out⟩, by simp [intOf]; omega⟩
      · have h1' : ¬ (best : Int) < (K : Int) := by omega
        by_cases h2 : K = best
        · have HM := Lib.hid (HM2.out h2)
          subst h2
          clear HM1 HM2 HM3 h1
          -- out (a row HO5.out of the call's own at the world of which HB5.out is known, the new block: w3.heap.size) gets one loop (k : Int) more
          go_wp2_with (at_builtin; refine wpList_append_own_at _ rfl _ _ 27 rfl w1.heap.size 2 i0 _ 1 8 Try.underlying27 hi hz0 hz1 hz2 rfl (by decide) _ _ _ rfl (HO5.out.alloc _) ⟨w3.heap.size, 0, none⟩ 1 1 [.int .i64 (k : Int)] rfl rfl ?c1 ?c2 ?c3 ?c4 ?c5 ?_)
          case c1 => exact new_cells' _ _ (by first | rfl | simp)
          case c2 => exact int_one _
          case c3 => (try simp only [List.length_nil]); unfold maxLen; omega
          case c4 => (try simp only [List.length_nil]); omega
          case c5 => have := HB5.out.size; (try simp at this); (try simp); omega
          intro v' w4 hown4 hgrow4 _ hat4
          have HB4 := Lib.hid (below_append' (HB5.out.alloc HB5.out.size _) (by have := HB5.out.size; (try simp at this); (try simp); omega) HO5.out (by simp) hgrow4)
          have HO4 : Hid (w4.ownsRow w1.heap.size 2 1 v' (out ++ [(k : Int)]).length (vI (out ++ [(k : Int)]))) := by unfold Hid; rw [vI_snoc, List.length_append]; exact hown4
          clear hgrow4 hown4 hat4
          go_wp2
          exact ⟨⟨k + 1, K, out ++ [(k : Int)], by omega, by go_num, rfl, HO4.out, HM.out, by simp; omega, HB4.out⟩, by simp [intOf]; omega⟩
        · have HM := Lib.hid (HM3.out h1 h2)
          have h2' : ((K : Int) == (best : Int)) = false := by simpa using fun e => h2 (by omega)
          clear HM1 HM2 HM3
          go_wp2
          exact ⟨⟨k + 1, best, out, by omega, by go_num, rfl, HO5.out, HM.out, by omega, HB5.out⟩, by simp [intOf]; omega⟩
    · have HE := Lib.hid (show R = out by rw [HD.out, ref_end (by omega), wkGo])
      go_wp2
      go_ret2
      rw [show weakL m = out from HR0.out.trans HE.out]
      exact GivesC.yes (okC_yes HOK.out) rfl ((OwC.of_own HO.out).lo HB.out.size) (HB.out.trans (HBr.out.mono HB.out.size))

end Go.Proofs.Ytogaellhkjjeaaa
