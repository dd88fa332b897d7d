/-
  Texts joined: EvE, Chg.
-/
import Derived.Test.YtiampiakhkpcbaaPk4
import Derived.Test.YtiampiakhkpcbaaL10e
import Derived.Test.YtiampiakhkpcbaaCntI
import Derived.Test.YtiampiakhkpcbaaAppend
import Derived.Test.YtiampiakhkpcbaaOwn
import Derived.Test.YtiampiakhkpcbaaPk3
import Derived.Test.YtiampiakhkpcbaaBraidE
import Derived.Test.YtiampiakhkpcbaaPk1
/-
  A draw of events: l10Draw, E8Events.
-/
namespace Go.Proofs.Ytiampiakhkpcbaa
set_option linter.unusedVariables false
set_option linter.unusedSimpArgs false
open Go.RowKit

theorem cnt_add {acc : List Ev} {n0 n : Int} {x : Ev} (h : cntE n0 acc = some n) (hv : valE n x = true) (ha : aftE n x ≤ 12) : cntE n0 (acc ++ [x]) = some (aftE n x) := by
  induction acc generalizing n0 with
  | nil =>
    rw [cntE] at h
    injection h with h
    subst h
    show cntE n0 (x :: []) = _
    rw [cntE, if_pos ⟨hv, ha⟩, cntE]
  | cons y acc ih =>
    show cntE n0 (y :: (acc ++ [x])) = _
    rw [cntE] at h ⊢
    split at h
    · rename_i hy
      rw [if_pos hy]
      exact ih h
    · cases h
theorem aft8 {n : Int} {x : Ev} (h0 : 0 ≤ n) (h8 : n ≤ 8) (hk : 7 < n → x.k = 4) (hv : valE n x = true) : 0 ≤ aftE n x ∧ aftE n x ≤ 8 := by
  refine ⟨(aft_bounds h0 (by omega) hv).1, ?_⟩
  by_cases h7 : 7 < n
  · have h4 := hk h7
    unfold valE at hv
    unfold aftE
    simp [h4] at hv ⊢
    omega
  · unfold aftE
    split
    · rename_i h2
      unfold valE at hv
      simp [h2] at hv
      omega
    · split
      · omega
      · split
        · omega
        · split
          · rename_i h4
            unfold valE at hv
            simp [h4] at hv
            omega
          · omega
/-- Events that were drawn: valid ones. -/
def DrawnEs (w : World) (g : Nat) (K most : Int) (e : Ending) (w' : World) : Prop := ∃ (v : Value) (l : List Ev), e = .returned v ∧ w'.ownsRow w.heap.size 33 6 v l.length (vE l) ∧ (cntE 0 l).isSome = true ∧ (l.length : Int) ≤ most ∧ Src w' g K ∧ Only g (g + 1) w w'
theorem vE_snoc2 (l : List Ev) (x : Ev) : vE (l ++ [x]) = vE l ++ x.cells := by simp [vS]
set_option maxHeartbeats 8000000 in
set_option maxRecDepth 100000 in
theorem l10Draw_any {w : World} {gs : Nat} {K most : Int} (hS : Src w gs K) (hm0 : 0 ≤ most) (hm1 : most ≤ 100) (hK : K + 4 + 20 * most ≤ 1000000000) :
    Calls Try.prog 20 #[.pointer (some ⟨gs, 0, none⟩), .int .i64 most] w (DrawnEs w gs (K + 4 + 20 * most) most) := by
  obtain ⟨i0, hi, hz0, hz1, hz2⟩ := info_parts info_ev
  have hgs := hS.lt
  have HS := Lib.hid hS
  have hw1 : IntKind.i64.wrap (most + 1) = most + 1 := IntWalk.i64_in _ (by omega)
  clear hS
  go_enter Try.func20, Try.ntmps20
  go_wp2_with fail
  have hO0 : (w.alloc (.cells #[] 33)).ownsRow w.heap.size 33 6 (.slice (some ⟨w.heap.size, 0, none⟩) 0 0) ([] : List Ev).length (vE []) := World.ownsRow_lit w #[] 0 (Nat.le_refl _) (by unfold maxLen; omega) rfl
  have hN0 := (Only.refl gs (gs + 1) w).alloc (.cells #[] 33)
  have hS0 := HS.out.alloc (.cells #[] 33)
  generalize w.alloc (.cells #[] 33) = W at *
  refine (pick_any W gs (most + 1) K hS0 (by omega)).mono ?_
  rintro e W1 ⟨k0, rfl, hk, hs1, ho1⟩
  have hk0 : 0 ≤ k0 := hk.1
  have hk1 : k0 ≤ most := by
    rcases (by omega : 1 < most + 1 ∨ most + 1 ≤ 1) with h1 | h1
    · have := hk.2.1 h1; omega
    · have := hk.2.2 h1; omega
  obtain ⟨n0, rfl⟩ := Int.eq_ofNat_of_zero_le hk0
  have S1 := Lib.hid hs1
  have O1 := Lib.hid (hN0.trans ho1)
  have R1 := Lib.hid (own_only hO0 ho1 hgs)
  clear hk hs1 ho1 hO0 hN0 hS0 hw1
  go_wp2_with fail
  go_loopw [5, 6, 7] (fun v5 v6 i wr => ∃ (n : Nat) (m : Int) (l : List Ev) (wq : World), wq = wr ∧ n ≤ n0 ∧ l.length + n ≤ n0 ∧ i = .int .i64 n ∧ v6 = .int .i64 m ∧ 0 ≤ m ∧ m ≤ 8 ∧ Hid (cntE 0 l = some m) ∧ Hid (wq.ownsRow w.heap.size 33 6 v5 l.length (vE l)) ∧ Hid (Src wq gs (K + 2 + 20 * ((n0 : Int) - n))) ∧ Hid (Only gs (gs + 1) w wq)) (fun _ _ i _ => (intOf i).toNat)
  case atStart => exact ⟨n0, 0, [], _, rfl, Nat.le_refl _, by simp, rfl, rfl, by omega, by omega, rfl, R1.out, S1.out.more (by omega) (by omega), O1.out⟩
  case round =>
    clear S1 O1 R1
    obtain ⟨n, m, l, wq, hwq, hn, hln, rfl, rfl, hm0', hm8, HC, HR, HSr, HO⟩ := hrel
    subst hwq
    by_cases hz : n = 0
    · subst hz
      obtain ⟨A, c, rfl⟩ := own_shape HR.out
      go_wp2
      go_ret
      exact ⟨_, l, rfl, HR.out, by rw [HC.out]; rfl, by omega, HSr.out.more (by omega) hK, HO.out⟩
    · have hlt0 : (0 : Int) < (n : Int) := by omega
      go_wp2_with fail
      refine (l10DrawEvent_any HSr.out hm0' hm8 (by omega)).mono ?_
      rintro e W5 ⟨x, rfl, hxk, hs5, ho5⟩
      have S5 := Lib.hid (hs5.alloc (.cells x.cells.toArray 33))
      have O5 := Lib.hid ((HO.out.trans ho5).alloc (.cells x.cells.toArray 33))
      have R5 := Lib.hid (own_below (own_only HR.out ho5 hgs) ((Below.refl _ _).alloc (Nat.le_refl _) (.cells x.cells.toArray 33)))
      have X5 := Lib.hid (Bx.new W5 x.cells 33)
      have HXK := Lib.hid hxk
      clear hs5 ho5 hxk HR HSr HO
      go_wp2_with fail
      obtain ⟨W6, hW6⟩ : ∃ W6, W6 = W5.alloc (.cells x.cells.toArray 33) := ⟨_, rfl⟩
      obtain ⟨g8, hg8⟩ : ∃ g8, g8 = W5.heap.size := ⟨_, rfl⟩
      have HQ := Lib.hid (l10Event_any x m hm0' (by omega) W5.heap.size 0 _ X5.out.1)
      rw [← hW6, ← hg8] at X5 HQ
      rw [← hW6] at S5 O5 R5
      rw [← hW6, ← hg8]
      clear hW6 hg8
      refine HQ.out.mono ?_
      rintro e W7 ⟨q, rfl, hq, hb7⟩
      have S7 := Lib.hid (S5.out.below hb7 S5.out.lt)
      have O7 := Lib.hid (O5.out.trans (Only.of_below hb7))
      have R7 := Lib.hid (own_below R5.out hb7)
      have X7 := Lib.hid (X5.out.below hb7 X5.out.2.2)
      clear hb7 S5 O5 R5 X5 HQ
      rcases hv : valE m x
      · clear hv hq
        go_wp2
        exact ⟨⟨n - 1, m, l, W7, rfl, by omega, by omega, by go_num, rfl, hm0', hm8, HC.out, R7.out, S7.out.more (by omega) (by omega), O7.out⟩, by simp [intOf]; omega⟩
      · obtain rfl := hq hv
        obtain ⟨ha0, ha8⟩ := aft8 hm0' hm8 HXK.out hv
        have HA := Lib.hid (cnt_add HC.out hv (by omega))
        obtain ⟨A, c, rfl⟩ := own_shape R7.out
        obtain ⟨e0, e1, e2, e3, e4, e5⟩ := X7.out.six
        have RA := Lib.hid (own_below R7.out ((Below.refl _ _).alloc (Nat.le_refl _) (.cells x.cells.toArray 33)))
        clear hv hq
        have hws := O7.out.size
        go_wp2_with (at_builtin; refine wpList_append_own_at _ rfl _ _ 23 rfl w.heap.size 33 i0 _ 6 48 Try.underlying23 hi hz0 hz1 hz2 rfl (by decide) _ _ _ rfl RA.out ⟨W7.heap.size, 0, none⟩ 1 1 x.cells rfl rfl (new_cells' _ _ rfl) (by intro u hu; simp at hu; rcases hu with rfl | rfl | rfl | rfl | rfl | rfl <;> rfl) (by unfold maxLen; omega) (by omega) (by simp; omega) ?_)
        intro v2 w2 hown2 hg2 _ hat2
        have hb2 : Below w.heap.size W7 w2 := (Below.grown ((Below.refl w.heap.size W7).alloc hws (.cells x.cells.toArray 33)) hg2 (by rw [World.size_alloc]; omega) (fun k hk => (RA.out.lt k hk).1))
        have S9 := Lib.hid (S7.out.below hb2 hgs)
        have O9 := Lib.hid (O7.out.below_ hb2)
        have R9 : Hid (w2.ownsRow w.heap.size 33 6 v2 (l ++ [x]).length (vE (l ++ [x]))) := by unfold Hid; rw [vE_snoc2, List.length_append]; exact hown2
        have hll : (l ++ [x]).length = l.length + 1 := by simp
        clear hown2 hg2 hat2 hb2 S7 O7 R7 X7 RA
        go_wp2
        exact ⟨⟨n - 1, _, l ++ [x], w2, rfl, by omega, by omega, by go_num, rfl, ha0, ha8, HA.out, R9.out, S9.out.more (by omega) (by omega), O9.out⟩, by simp [intOf]; omega⟩
/-- Valid events that a law draws. -/
def DrawnV (w : World) (e : Ending) (w' : World) : Prop := ∃ (v : Value) (l : List Ev), e = .returned v ∧ RdE w' w'.heap.size v l ∧ okEvs l = true ∧ l.length ≤ 18 ∧ Below w.heap.size w w'
set_option maxHeartbeats 1000000 in
theorem e8Events_any (w : World) (v0 : Value) (h : RdB w w.heap.size v0) : Calls Try.prog 5 #[v0] w (DrawnV w) := by
  have HB := Lib.hid h
  clear h
  go_enter Try.func5, Try.ntmps5
  go_wp2_with fail
  refine (l00From_any _ v0 HB.out).mono ?_
  rintro e w1 ⟨rfl, hs1, hb1, hz1⟩
  have B1 := Lib.hid hb1
  have S1 := Lib.hid hs1
  clear hb1 hs1
  go_wp2_with fail
  refine (l10Draw_any (gs := w.heap.size) (K := 0) S1.out (by decide) (by decide) (by decide)).mono ?_
  rintro e w2 ⟨v, l, rfl, hown, hc, hl, hs, ho⟩
  have hb2 := B1.out.trans (ho.below (Nat.le_refl _) (by omega))
  have hR := RdS.of_own Ev.len (OwC.of_own hown)
  have HR := Lib.hid hR
  have HB2 := Lib.hid hb2
  have HC := Lib.hid hc
  have hl18 : l.length ≤ 18 := by omega
  clear hc hl hs ho hown hb2 hR B1 S1 HB
  go_wp2
  go_ret
  exact ⟨_, l, rfl, HR.out, by unfold okEvs; rw [HC.out]; simp; omega, hl18, HB2.out⟩

end Go.Proofs.Ytiampiakhkpcbaa

/-
  Events whose braids are changed by relations: l13Change, E8Changed.
-/
namespace Go.Proofs.Ytiampiakhkpcbaa
set_option linter.unusedVariables false
set_option linter.unusedSimpArgs false
open Go.RowKit

theorem drop_ev {l : List Ev} {k : Nat} {x : Ev} (h : l[k]? = some x) : l.drop k = x :: l.drop (k + 1) := drop_of_get h
/-- Events with changed braids. -/
def DrawnCh (w : World) (g : Nat) (K : Int) (a : List Ev) (e : Ending) (w' : World) : Prop := ∃ (v : Value) (b : List Ev), e = .returned v ∧ w'.ownsRow w.heap.size 33 6 v b.length (vE b) ∧ ChE 0 a b ∧ b.length ≤ 2000 ∧ Src w' g K ∧ Only g (g + 1) w w'
/-- Two rows of a call's own that lie in different blocks. -/
def Apt (u v : Value) : Prop := ∀ g, u.ownBlock = some g → v.ownBlock ≠ some g
theorem Apt.symm {u v : Value} (h : Apt u v) : Apt v u := fun g h1 h2 => h g h2 h1
theorem Apt.grown {w : World} {u v v' : Value} {base e sz n b : Nat} {xs : List Value} (h : Apt u v) (hu : w.ownsRow base e sz u n xs) (hb : w.heap.size ≤ b) (hat : v'.ownBlock = v.ownBlock ∨ v'.ownBlock = some b) : Apt u v' := fun g h1 h2 => by
  rcases hat with e | e
  · exact h g h1 (e ▸ h2)
  · rw [e] at h2
    injection h2 with h2
    have := (hu.lt g h1).2
    omega
theorem Apt.new {w w' : World} {u v : Value} {base e sz n e' sz' n' : Nat} {xs ys : List Value} (hu : w.ownsRow base e sz u n xs) (hv : w'.ownsRow w.heap.size e' sz' v n' ys) : Apt u v := fun g h1 h2 => by
  have := (hu.lt g h1).2
  have := (hv.lt g h2).1
  omega
theorem cnt_step {U r : List Ev} {m : Int} {x : Ev} (h1 : m ≤ 12) (hU : ∀ e ∈ U, e.k = 1) (h : (cntE m (U ++ x :: r)).isSome = true) : valE m x = true ∧ aftE m x ≤ 12 ∧ (cntE (aftE m x) r).isSome = true := by
  obtain ⟨h2, h3⟩ := cnt_cross h1 U (x :: r) hU h
  rw [h3] at h
  have h4 := cnt_at (l := x :: r) (k := 0) (x := x) (by simpa using h) rfl
  simpa using h4
theorem vE_one2 (l : List Ev) : ∀ u ∈ vE l, u.oneCell' = true := by
  intro u hu
  unfold vE vS at hu
  rw [List.mem_flatMap] at hu
  obtain ⟨x, _, hx⟩ := hu
  simp at hx
  rcases hx with rfl | rfl | rfl | rfl | rfl | rfl <;> rfl
set_option maxHeartbeats 8000000 in
set_option maxRecDepth 100000 in
theorem l13Change_any {w : World} {gs : Nat} {K : Int} {v : Value} {a : List Ev} (hS : Src w gs K) (hl : RdE w gs v a) (hc : (cntE 0 a).isSome = true) (ha : a.length ≤ 60) (hK : K + 60 * 61 ≤ 1000000000) :
    Calls Try.prog 21 #[.pointer (some ⟨gs, 0, none⟩), v] w (DrawnCh w gs (K + 60 * 61) a) := by
  obtain ⟨ie, hie, he0, he1, he2⟩ := info_parts info_ev
  obtain ⟨i0, hi, hz0, hz1, hz2⟩ := info_parts info_int
  have hgs := hS.lt
  have HS := Lib.hid hS
  have HC := Lib.hid hc
  obtain ⟨A, n, c, rfl, hln, hl', gl⟩ := hl
  have HL := Lib.hid gl
  have HLN := Lib.hid hl'.out
  have hn60 : n ≤ 60 := by have := hl'.out; omega
  clear hS hc gl hl' ha
  have hO0 : (w.alloc (.cells #[] 33)).ownsRow w.heap.size 33 6 (.slice (some ⟨w.heap.size, 0, none⟩) 0 0) ([] : List Ev).length (vE []) := World.ownsRow_lit w #[] 0 (Nat.le_refl _) (by unfold maxLen; omega) rfl
  have hO1 : ((w.alloc (.cells #[] 33)).alloc (.cells #[] 2)).ownsRow w.heap.size 2 1 (.slice (some ⟨w.heap.size + 1, 0, none⟩) 0 0) (([] : List Ev).map letX).length (vI (([] : List Ev).map letX)) := by
    have h9 := World.ownsRow_lit (base := w.heap.size) (e := 2) (size := 1) (w.alloc (.cells #[] 33)) #[] 0 (by simp) (by unfold maxLen; omega) rfl
    rwa [World.size_alloc] at h9
  have R5 := Lib.hid (own_below hO0 ((Below.refl _ _).alloc (Nat.le_refl _) (.cells #[] 2)))
  have R6 := Lib.hid hO1
  have S0 := Lib.hid ((HS.out.alloc (.cells #[] 33)).alloc (.cells #[] 2))
  have O0 := Lib.hid (((Only.refl gs (gs + 1) w).alloc (.cells #[] 33)).alloc (.cells #[] 2))
  clear hO0 hO1 HS
  go_enter Try.func21, Try.ntmps21
  go_wp2_with fail
  go_loopw [5, 6, 7, 8] (fun v5 v6 v7 i wr => ∃ (k : Nat) (m : Int) (out U : List Ev) (wq : World), wq = wr ∧ k ≤ n + 1 ∧ i = .int .i64 k ∧ v7 = .int .i64 m ∧ 0 ≤ m ∧ m ≤ 12 ∧ out.length + U.length ≤ 20 * k ∧ U.length ≤ k ∧ Hid (wq.ownsRow w.heap.size 33 6 v5 out.length (vE out)) ∧ Hid (wq.ownsRow w.heap.size 2 1 v6 (U.map letX).length (vI (U.map letX))) ∧ Hid (Apt v5 v6) ∧ Hid (∀ e ∈ U, e.k = 1) ∧
    Hid (k ≤ n → ∀ z, ChE m (U ++ a.drop k) z → ChE 0 a (out ++ z)) ∧ Hid (k ≤ n → (cntE m (U ++ a.drop k)).isSome = true) ∧ Hid (n < k → ChE 0 a out) ∧ Hid (Src wq gs (K + 60 * (k : Int))) ∧ Hid (Only gs (gs + 1) w wq)) (fun _ _ _ i _ => n + 1 - (intOf i).toNat)
  case atStart => exact ⟨0, 0, [], [], _, rfl, by omega, rfl, rfl, by omega, by omega, by simp, by simp, R5.out, R6.out, fun g h1 h2 => by (have e1 : w.heap.size = g := (by injection h1)); (have e2 : w.heap.size + 1 = g := (by injection h2)); omega, by simp [Hid], fun _ z hz => by simpa using hz, fun _ => by simpa using HC.out, fun h => by omega, S0.out.more (by omega) (by omega), O0.out⟩
  case round =>
    clear R5 R6 S0 O0
    obtain ⟨k, m, out, U, wq, hwq, hk, rfl, rfl, hm0, hm1, hou, hUk, HR5, HR6, HAP, HU, HCH, HCN, HFI, HSr, HO⟩ := hrel
    subst hwq
    obtain ⟨A5, c5, rfl⟩ := own_shape HR5.out
    obtain ⟨A6, c6, rfl⟩ := own_shape HR6.out
    have hmap : (U.map letX).length = U.length := List.length_map ..
    rw [hmap] at HR6 HAP

    by_cases hlast : n < k
    · have hkn : k = n + 1 := by omega
      have h9 : ¬ (k : Int) ≤ (n : Int) := by omega
      have HFF := Lib.hid (HFI.out hlast)
      go_wp2
      go_ret
      exact ⟨_, out, rfl, HR5.out, HFF.out, by omega, HSr.out.more (by omega) hK, HO.out⟩
    have hle : (k : Int) ≤ (n : Int) := by omega
    have HCH1 := Lib.hid (HCH.out (by omega))
    have HCN1 := Lib.hid (HCN.out (by omega))
    clear HCH HCN HFI
    have hmap : (U.map letX).length = U.length := List.length_map ..
    have HRW6 := Lib.hid (show RdI wq wq.heap.size (.slice A6 U.length c6) (U.map letX) from RdI.of_own (OwC.of_own (by rw [hmap]; exact HR6.out)))
    have HRW7 := Lib.hid (show wq.ownsRow w.heap.size 2 1 (.slice A6 U.length c6) (U.map letX).length (vI (U.map letX)) by rw [hmap]; exact HR6.out)
    by_cases hlt : k < n
    · obtain ⟨b, off, x, rfl, hbb, hlk, hcc⟩ := HL.out k hlt
      have hccw : CellsAt wq b (off + k * 6) x.cells := hcc.keep fun o => World.cell?_of_block (HO.out.block b (by omega) (by omega))
      have hbw : b < wq.heap.size := block_lt_of_cell (hccw.six).1
      have hcn := HCN1.out
      have hch := HCH1.out
      rw [drop_ev hlk] at hcn hch
      obtain ⟨hv, haf, hcn2⟩ := cnt_step hm1 HU.out hcn
      have HLW := Lib.hid (cnt_cross hm1 U _ HU.out hcn).1
      obtain ⟨c0, c1, c2, c3, c4, c5'⟩ := hccw.six
      have hltI : (k : Int) < (n : Int) := by omega
      by_cases hxk : x.k = 1
      · obtain ⟨hw1, hw2⟩ := letX_rng hm1 hv hxk
        rw [aft_cross hxk] at hcn2
        have hk1 : (x.k == 1) = true := by simp [hxk]
        have HCN2 := Lib.hid (show (cntE m ((U ++ [x]) ++ a.drop (k + 1))).isSome = true by rw [List.append_assoc]; exact hcn)
        have HCH2 := Lib.hid (show ∀ z, ChE m ((U ++ [x]) ++ a.drop (k + 1)) z → ChE 0 a (out ++ z) by rw [List.append_assoc]; exact hch)
        have HU2 := Lib.hid (show ∀ e ∈ U ++ [x], e.k = 1 from fun e he => (List.mem_append.1 he).elim (HU.out e) fun h => by simp at h; rw [h]; exact hxk)
        have hsz := HO.out.size
        have RA := Lib.hid (own_below HR6.out ((Below.refl _ wq).alloc (Nat.le_refl _) (.cells #[.int .i64 (letX x)] 2)))
        have RB := Lib.hid (own_below HR5.out ((Below.refl _ wq).alloc (Nat.le_refl _) (.cells #[.int .i64 (letX x)] 2)))
        clear hcc hlk hcn hch hv haf hcn2 hccw hxk
        go_wp2_with fail
        go_region_law ((refine step_append_any _ rfl (.tmp 29) (.tmp 42) _ rfl w.heap.size 2 i0 _ 1 8 Try.underlying41 hi hz0 hz1 hz2 rfl (by decide) _ _ _ rfl (show ((wq.alloc (.cells #[.int .i64 (letX x)] 2)).drew).ownsRow _ _ _ _ _ _ from RA.out) _ (some ⟨wq.heap.size, 0, none⟩) 1 1 _ rfl (show Reads ((wq.alloc (.cells #[.int .i64 (letX x)] 2)).drew) _ _ _ _ _ from reads_one wq (letX x)) (vI_one _) (by unfold maxLen; omega) (by omega) (by show w.heap.size ≤ (wq.alloc _).heap.size; rw [World.size_alloc]; omega) ?_; intro v6' w6 hown6 hg6 hat6))
        all_goals
          have hzA : (wq.alloc (.cells #[.int .i64 (letX x)] 2)).drew.heap.size = wq.heap.size + 1 := World.size_alloc _ _
          have hb6 : Below w.heap.size wq w6 := (((Below.refl w.heap.size wq).alloc hsz (.cells #[.int .i64 (letX x)] 2)).drew).grown hg6 (by rw [hzA]; omega) (fun gg hgg => (HR6.out.lt gg hgg).1)
          have R5' := Lib.hid (own_other (show ((wq.alloc (.cells #[.int .i64 (letX x)] 2)).drew).ownsRow _ _ _ _ _ _ from RB.out) hg6 HAP.out)
          have R6' : Hid (w6.ownsRow w.heap.size 2 1 v6' ((U ++ [x]).map letX).length (vI ((U ++ [x]).map letX))) := by
            unfold Hid
            rw [List.map_append, vI_app, List.length_append, hmap]
            exact hown6
          have AP' := Lib.hid (Apt.grown HAP.out HR5.out (Nat.le_of_lt (Nat.lt_of_lt_of_eq (Nat.lt_succ_self _) hzA.symm)) hat6)
          have S6 := Lib.hid (HSr.out.below hb6 hgs)
          have O6 := Lib.hid (HO.out.below_ hb6)
          have hll : (U ++ [x]).length = U.length + 1 := by simp
          clear hown6 hg6 hat6 hb6 hzA RA RB
          go_wp2
          exact ⟨⟨k + 1, m, out, U ++ [x], w6, rfl, by omega, by go_num, rfl, hm0, hm1, by omega, by omega, R5'.out, R6'.out, AP'.out, HU2.out, fun _ => HCH2.out, fun _ => HCN2.out, fun h => by omega, S6.out.more (by omega) (by omega), O6.out⟩, by simp [intOf]; omega⟩
      · have hk1 : (x.k == 1) = false := by simpa using hxk
        have HXK := Lib.hid hxk
        have HV := Lib.hid hv
        have hab := aft_bounds hm0 hm1 hv
        have HCH2 := Lib.hid hch
        have HCN2 := Lib.hid hcn2
        have HCC := Lib.hid hcc
        clear hcc hlk hcn hch hv hcn2 hccw hxk hmap
        -- l13Change: the word between two stitches is closed
        go_upto_if 45 with fail
        go_cut [6] (fun s6 wx => ∃ (W : List Int) (wy : World), wy = wx ∧ W.length ≤ U.length + 16 ∧ Hid (Rel m.toNat (U.map letX) W) ∧ Hid (wx.ownsRow w.heap.size 2 1 s6 W.length (vI W)) ∧ Hid (wx.ownsRow w.heap.size 33 6 (.slice A5 out.length c5) out.length (vE out)) ∧ Hid (Apt (.slice A5 out.length c5) s6) ∧ Hid (Src wx gs (K + 60 * (k : Int) + 60)) ∧ Hid (Only gs (gs + 1) w wx))
        case first =>
          by_cases hm : 1 < m
          · have hmm : ((m.toNat : Nat) : Int) = m := by omega
            have HQ := Lib.hid (l04Relate_any (gs := gs) (n := m.toNat) (ML := U.length + 16) (K := K + 60 * (k : Int)) (v := .slice A6 U.length c6) (word := U.map letX) HSr.out (by omega) (by omega) HRW6.out HLW.out (by rw [List.length_map]; omega) (by omega) (by omega) (by omega))
            rw [hmm] at HQ
            clear hmm
            go_wp2_with fail
            refine HQ.out.mono ?_
            rintro e w2 ⟨v2, W, rfl, ho2, hrel, hlw, hs2, hon2⟩
            have hR5' := own_only HR5.out hon2 hgs
            go_wp2_with fail
            go_meet
            exact ⟨W, _, rfl, hlw, hrel, own_base ho2 HO.out.size, hR5', Apt.new HR5.out ho2, hs2, HO.out.trans hon2⟩
          · go_wp2_with fail
            go_meet
            exact ⟨U.map letX, _, rfl, by rw [List.length_map]; omega, .refl _, HRW7.out, HR5.out, HAP.out, HSr.out.more (by omega) (by omega), HO.out⟩
        case rest =>
        obtain ⟨W, w3, rfl, hwl, HRW, R6, R5, AP, S3, O3⟩ := hcut
        clear HR5 HR6 HAP HSr HO HRW6 HRW7
        have HLW2 := Lib.hid (HRW.out.lets.1 HLW.out)
        have HQL := Lib.hid (l10Letters_any _ W w3 (RdI.of_own (OwC.of_own R6.out)) (fun y hy => ⟨(HLW2.out y hy).1, by have := (HLW2.out y hy).2; omega, by have := (HLW2.out y hy).2; omega⟩) (by omega))
        have hsz3 := O3.out.size
        have hlE : (letsE W).length = W.length := by simp [letsE]
        rw [hlE] at HQL
        have HLE := Lib.hid hlE
        obtain ⟨A6', c6', rfl⟩ := own_shape R6.out
        clear hlE R6
        go_wp2_with fail
        refine HQL.out.mono ?_
        rintro e w4 ⟨v4, rfl, ho4, hb4⟩
        obtain ⟨A4, c4', rfl, -⟩ := ho4.cells
        have HR4 := Lib.hid (((RdS.of_own Ev.len (by rw [HLE.out]; exact ho4) : RdE w4 w4.heap.size _ (letsE W)).reads Ev.len (by decide)).1)
        have R5b := Lib.hid (own_below R5.out hb4)
        have S4 := Lib.hid (S3.out.below hb4 S3.out.lt)
        have O4 := Lib.hid (O3.out.trans (Only.of_below hb4))
        have hsz4 := O4.out.size
        have AP4 := Lib.hid (fun g (h : (Value.slice A5 out.length c5).ownBlock = some g) => (R5.out.lt g h).2)
        clear hb4 ho4 R5 S3 O3 HQL AP
        go_wp2_with (at_builtin; refine wpList_append_any _ rfl _ _ _ rfl w.heap.size 33 ie _ 6 48 Try.underlying23 hie he0 he1 he2 rfl (by decide) _ _ _ rfl R5b.out w4.heap.size A4 W.length c4' (vE (letsE W)) rfl HR4.out (vE_one2 _) (by unfold maxLen; omega) (by omega) (by omega) ?_)
        intro v5' w5 hown5 hg5 hat5
        have hb5 : Below w.heap.size w4 w5 := (Below.refl w.heap.size w4 |>.grown hg5 hsz4 (fun gg hgg => (R5b.out.lt gg hgg).1))
        have S5 := Lib.hid (S4.out.below hb5 hgs)
        have O5 := Lib.hid (O4.out.below_ hb5)
        have R5c : Hid (w5.ownsRow w.heap.size 33 6 v5' (out ++ letsE W).length (vE (out ++ letsE W))) := by
          unfold Hid
          rw [List.length_append, HLE.out, show vE (out ++ letsE W) = vE out ++ vE (letsE W) by simp [vS]]
          exact hown5
        have hlo : (out ++ letsE W).length = out.length + W.length := by rw [List.length_append, HLE.out]
        clear hown5 hg5 hat5 hb5 S4 O4 R5b HR4 AP4
        obtain ⟨A5', c5'', rfl⟩ := own_shape R5c.out
        generalize hOL : (out ++ letsE W).length = ol at *
        have HOL := Lib.hid hOL
        have hle9 : ol ≤ out.length + W.length := by omega
        clear hOL hlo
        have HW5 : Below w5.heap.size w5 (w5.alloc (.cells #[] 2)) := (Below.refl _ _).alloc (Nat.le_refl _) _
        have R6n : Hid ((w5.alloc (.cells #[] 2)).ownsRow w.heap.size 2 1 (.slice (some ⟨w5.heap.size, 0, none⟩) 0 0) (([] : List Ev).map letX).length (vI (([] : List Ev).map letX))) := World.ownsRow_lit (base := w.heap.size) (e := 2) (size := 1) w5 #[] 0 O5.out.size (by unfold maxLen; omega) rfl
        have R5d := Lib.hid (own_below R5c.out HW5)
        have AP6 := Lib.hid (show Apt (.slice A5' ol c5'') (.slice (some ⟨w5.heap.size, 0, none⟩) 0 0) from fun g h1 h2 => by
          have h9 := (R5c.out.lt g h1).2
          have e1 : w5.heap.size = g := by injection h2
          omega)
        have S6 := Lib.hid (S5.out.alloc (.cells #[] 2))
        have O6 := Lib.hid (O5.out.alloc (.cells #[] 2))
        have HC6 := Lib.hid (show CellsAt (w5.alloc (.cells #[] 2)) b (off + k * 6) x.cells from HCC.out.keep fun o => World.cell?_of_block (O6.out.block b (by omega) (by omega)))
        clear HW5 S5 O5 R5c c0 c1 c2 c3 c4 c5'
        go_upto_region 14 with fail
        generalize w5.alloc (.cells #[] 2) = w6 at *
        generalize w5.heap.size = g6 at *
        obtain ⟨c0, c1, c2, c3, c4, c5'⟩ := HC6.out.six
        have hsz6 := O6.out.size
        have RA := Lib.hid (own_below R5d.out ((Below.refl _ w6).alloc (Nat.le_refl _) (.cells x.cells.toArray 33)))
        have RW := Lib.hid (own_below R6n.out ((Below.refl _ w6).alloc (Nat.le_refl _) (.cells x.cells.toArray 33)))
        go_wp2_with (at_builtin; refine wpList_append_own_at _ rfl _ _ 23 rfl w.heap.size 33 ie _ 6 48 Try.underlying23 hie he0 he1 he2 rfl (by decide) _ _ _ rfl RA.out ⟨w6.heap.size, 0, none⟩ 1 1 x.cells rfl rfl (new_cells' _ _ rfl) (by intro u hu; simp at hu; rcases hu with rfl | rfl | rfl | rfl | rfl | rfl <;> rfl) (by unfold maxLen; omega) (by omega) (by simp; omega) ?_)
        intro v7 w7 hown7 hg7 _ hat7
        have hz7 : (w6.alloc (.cells x.cells.toArray 33)).heap.size = w6.heap.size + 1 := World.size_alloc _ _
        have hb7 : Below w.heap.size w6 w7 := ((Below.refl w.heap.size w6).alloc hsz6 (.cells x.cells.toArray 33)).grown hg7 (by rw [hz7]; omega) (fun gg hgg => (RA.out.lt gg hgg).1)
        have S7 := Lib.hid (S6.out.below hb7 hgs)
        have O7 := Lib.hid (O6.out.below_ hb7)
        have RW7 := Lib.hid (own_other RW.out hg7 (AP6.out.symm))
        have R57 : Hid (w7.ownsRow w.heap.size 33 6 v7 ((out ++ letsE W) ++ [x]).length (vE ((out ++ letsE W) ++ [x]))) := by
          unfold Hid
          rw [List.length_append, HOL.out, vE_snoc2]
          exact hown7
        have AP7 := Lib.hid ((Apt.grown (b := w6.heap.size + 1) AP6.out.symm R6n.out (Nat.le_succ _) (by simpa using hat7)).symm)
        have hl7 : ((out ++ letsE W) ++ [x]).length = ol + 1 := by rw [List.length_append, HOL.out]; rfl
        have HC7 := Lib.hid (show CellsAt w7 b (off + k * 6) x.cells from HCC.out.keep fun o => World.cell?_of_block (O7.out.block b (by omega) (by omega)))
        have HQE := Lib.hid (l10Event_any x m hm0 hm1 b (off + k * 6) w7 HC7.out)
        have hsz7 := O7.out.size
        clear hown7 hg7 hat7 hb7 hz7 S6 O6 R6n R5d AP6 HC6 RA RW c0 c1 c2 c3 c4 c5'
        go_wp2_with fail
        refine HQE.out.mono ?_
        rintro e w8 ⟨q, rfl, hq, hb8⟩
        obtain rfl := hq HV.out
        have S8 := Lib.hid (S7.out.below hb8 S7.out.lt)
        have O8 := Lib.hid (O7.out.trans (Only.of_below hb8))
        have R58 := Lib.hid (own_below R57.out hb8)
        have RW8 := Lib.hid (own_below RW7.out hb8)
        have HCH3 := Lib.hid (show ∀ z, ChE (aftE m x) ([] ++ a.drop (k + 1)) z → ChE 0 a (((out ++ letsE W) ++ [x]) ++ z) from fun z hz => by
          have h9 := HCH2.out (letsE W ++ x :: z) (.step HU.out HRW.out HXK.out hz)
          simpa using h9)
        clear hb8 hq S7 O7 R57 RW7 HQE HC7 HCH2
        go_wp2
        exact ⟨⟨k + 1, _, (out ++ letsE W) ++ [x], [], w8, rfl, by omega, by go_num, rfl, hab.1, haf, by simp only [List.length_nil]; omega, by simp, R58.out, RW8.out, AP7.out, by simp [Hid], fun _ => HCH3.out, fun _ => HCN2.out, fun h => by omega, S8.out.more (by omega) (by omega), O8.out⟩, by simp [intOf]; omega⟩
    · have hkn : k = n := by omega
      have hltI : ¬ (k : Int) < (n : Int) := by omega
      have hdr : a.drop k = [] := List.drop_of_length_le (by have := HLN.out; omega)
      have hcn := HCN1.out
      have hch := HCH1.out
      rw [hdr] at hcn hch
      have HLW := Lib.hid (cnt_cross hm1 U _ HU.out hcn).1
      have HCH2 := Lib.hid hch
      clear hmap hdr hcn hch hkn
      -- l13Change: the word between two stitches is closed
      go_upto_if 45 with fail
      go_cut [6] (fun s6 wx => ∃ (W : List Int) (wy : World), wy = wx ∧ W.length ≤ U.length + 16 ∧ Hid (Rel m.toNat (U.map letX) W) ∧ Hid (wx.ownsRow w.heap.size 2 1 s6 W.length (vI W)) ∧ Hid (wx.ownsRow w.heap.size 33 6 (.slice A5 out.length c5) out.length (vE out)) ∧ Hid (Apt (.slice A5 out.length c5) s6) ∧ Hid (Src wx gs (K + 60 * (k : Int) + 60)) ∧ Hid (Only gs (gs + 1) w wx))
      case first =>
        by_cases hm : 1 < m
        · have hmm : ((m.toNat : Nat) : Int) = m := by omega
          have HQ := Lib.hid (l04Relate_any (gs := gs) (n := m.toNat) (ML := U.length + 16) (K := K + 60 * (k : Int)) (v := .slice A6 U.length c6) (word := U.map letX) HSr.out (by omega) (by omega) HRW6.out HLW.out (by rw [List.length_map]; omega) (by omega) (by omega) (by omega))
          rw [hmm] at HQ
          clear hmm
          go_wp2_with fail
          refine HQ.out.mono ?_
          rintro e w2 ⟨v2, W, rfl, ho2, hrel, hlw, hs2, hon2⟩
          have hR5' := own_only HR5.out hon2 hgs
          go_wp2_with fail
          go_meet
          exact ⟨W, _, rfl, hlw, hrel, own_base ho2 HO.out.size, hR5', Apt.new HR5.out ho2, hs2, HO.out.trans hon2⟩
        · go_wp2_with fail
          go_meet
          exact ⟨U.map letX, _, rfl, by rw [List.length_map]; omega, .refl _, HRW7.out, HR5.out, HAP.out, HSr.out.more (by omega) (by omega), HO.out⟩
      case rest =>
      obtain ⟨W, w3, rfl, hwl, HRW, R6, R5, AP, S3, O3⟩ := hcut
      clear HR5 HR6 HAP HSr HO HRW6 HRW7
      have HLW2 := Lib.hid (HRW.out.lets.1 HLW.out)
      have HQL := Lib.hid (l10Letters_any _ W w3 (RdI.of_own (OwC.of_own R6.out)) (fun y hy => ⟨(HLW2.out y hy).1, by have := (HLW2.out y hy).2; omega, by have := (HLW2.out y hy).2; omega⟩) (by omega))
      have hsz3 := O3.out.size
      have hlE : (letsE W).length = W.length := by simp [letsE]
      rw [hlE] at HQL
      have HLE := Lib.hid hlE
      obtain ⟨A6', c6', rfl⟩ := own_shape R6.out
      clear hlE R6
      go_wp2_with fail
      refine HQL.out.mono ?_
      rintro e w4 ⟨v4, rfl, ho4, hb4⟩
      obtain ⟨A4, c4', rfl, -⟩ := ho4.cells
      have HR4 := Lib.hid (((RdS.of_own Ev.len (by rw [HLE.out]; exact ho4) : RdE w4 w4.heap.size _ (letsE W)).reads Ev.len (by decide)).1)
      have R5b := Lib.hid (own_below R5.out hb4)
      have S4 := Lib.hid (S3.out.below hb4 S3.out.lt)
      have O4 := Lib.hid (O3.out.trans (Only.of_below hb4))
      have hsz4 := O4.out.size
      have AP4 := Lib.hid (fun g (h : (Value.slice A5 out.length c5).ownBlock = some g) => (R5.out.lt g h).2)
      clear hb4 ho4 R5 S3 O3 HQL AP
      go_wp2_with (at_builtin; refine wpList_append_any _ rfl _ _ _ rfl w.heap.size 33 ie _ 6 48 Try.underlying23 hie he0 he1 he2 rfl (by decide) _ _ _ rfl R5b.out w4.heap.size A4 W.length c4' (vE (letsE W)) rfl HR4.out (vE_one2 _) (by unfold maxLen; omega) (by omega) (by omega) ?_)
      intro v5' w5 hown5 hg5 hat5
      have hb5 : Below w.heap.size w4 w5 := (Below.refl w.heap.size w4 |>.grown hg5 hsz4 (fun gg hgg => (R5b.out.lt gg hgg).1))
      have S5 := Lib.hid (S4.out.below hb5 hgs)
      have O5 := Lib.hid (O4.out.below_ hb5)
      have R5c : Hid (w5.ownsRow w.heap.size 33 6 v5' (out ++ letsE W).length (vE (out ++ letsE W))) := by
        unfold Hid
        rw [List.length_append, HLE.out, show vE (out ++ letsE W) = vE out ++ vE (letsE W) by simp [vS]]
        exact hown5
      have hlo : (out ++ letsE W).length = out.length + W.length := by rw [List.length_append, HLE.out]
      clear hown5 hg5 hat5 hb5 S4 O4 R5b HR4 AP4
      obtain ⟨A5', c5'', rfl⟩ := own_shape R5c.out
      generalize hOL : (out ++ letsE W).length = ol at *
      have HOL := Lib.hid hOL
      have hle9 : ol ≤ out.length + W.length := by omega
      clear hOL hlo
      have R6n : Hid ((w5.alloc (.cells #[] 2)).ownsRow w.heap.size 2 1 (.slice (some ⟨w5.heap.size, 0, none⟩) 0 0) (([] : List Ev).map letX).length (vI (([] : List Ev).map letX))) := World.ownsRow_lit (base := w.heap.size) (e := 2) (size := 1) w5 #[] 0 O5.out.size (by unfold maxLen; omega) rfl
      have R5d := Lib.hid (own_below R5c.out ((Below.refl _ _).alloc (Nat.le_refl _) (.cells #[] 2)))
      have AP6 := Lib.hid (show Apt (.slice A5' ol c5'') (.slice (some ⟨w5.heap.size, 0, none⟩) 0 0) from fun g h1 h2 => by
        have h9 := (R5c.out.lt g h1).2
        have e1 : w5.heap.size = g := by injection h2
        omega)
      have S6 := Lib.hid (S5.out.alloc (.cells #[] 2))
      have O6 := Lib.hid (O5.out.alloc (.cells #[] 2))
      have HFF := Lib.hid (HCH2.out (letsE W) (by rw [List.append_nil]; exact .fin HU.out HRW.out))
      go_wp2
      exact ⟨⟨k + 1, m, out ++ letsE W, [], _, rfl, by omega, by go_num, rfl, hm0, hm1, by rw [HOL.out]; simp only [List.length_nil]; omega, by simp, by unfold Hid; rw [HOL.out]; exact R5d.out, R6n.out, AP6.out, by simp [Hid], fun h => by omega, fun h => by omega, fun _ => HFF.out, S6.out.more (by omega) (by omega), O6.out⟩, by simp [intOf]; omega⟩
/-- Changed events that a law draws. -/
def DrawnC (w : World) (a : List Ev) (e : Ending) (w' : World) : Prop := ∃ (v : Value) (b : List Ev), e = .returned v ∧ RdE w' w'.heap.size v b ∧ ChE 0 a b ∧ b.length ≤ 2000 ∧ Below w.heap.size w w'
set_option maxHeartbeats 1000000 in
theorem e8Changed_any (w : World) (v0 v : Value) (a : List Ev) (h : RdB w w.heap.size v0) (hl : RdE w w.heap.size v a) (hc : okEvs a = true) (ha : a.length ≤ 60) : Calls Try.prog 6 #[v0, v] w (DrawnC w a) := by
  have HB := Lib.hid h
  have HL := Lib.hid hl
  have HC := Lib.hid (show (cntE 0 a).isSome = true by unfold okEvs at hc; simp at hc; exact hc.1)
  obtain ⟨A, n, c, rfl, -⟩ := hl
  clear h hc
  go_enter Try.func6, Try.ntmps6
  go_wp2_with fail
  refine (l00From_any _ v0 HB.out).mono ?_
  rintro e w1 ⟨rfl, hs1, hb1, hz1⟩
  have B1 := Lib.hid hb1
  have S1 := Lib.hid hs1
  clear hb1 hs1
  go_wp2_with fail
  refine (l13Change_any (gs := w.heap.size) (K := 0) S1.out (HL.out.below B1.out) HC.out ha (by decide)).mono ?_
  rintro e w2 ⟨v2, b, rfl, hown, hch, hlb, hs, ho⟩
  have hb2 := B1.out.trans (ho.below (Nat.le_refl _) (by omega))
  have HR := Lib.hid (RdS.of_own Ev.len (OwC.of_own hown))
  have HB2 := Lib.hid hb2
  have HCH := Lib.hid hch
  obtain ⟨A2, c2, rfl⟩ := own_shape hown
  clear hch hs ho hown hb2 B1 S1 HB HL
  go_wp2
  go_ret
  exact ⟨_, b, rfl, HR.out, HCH.out, hlb, HB2.out⟩

end Go.Proofs.Ytiampiakhkpcbaa
