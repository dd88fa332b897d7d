/-
  RunOf, LadderOf, of the program and of the reference.
-/
import Derived.Test.YtbffmekhhfhacaaMcRun
namespace Go.Proofs.Ytbffmekhhfhacaa
set_option linter.unusedVariables false
set_option linter.unusedSimpArgs false
open Go.RowKit

/-- The code of a machine and a loop on a needle. -/
def liveC (m : Mc) (k : Int) : Int := if askC m k = 0 then (if hasB (liveL m) k = true then 0 else 6) else askC m k
theorem live_ask {m : Mc} {k : Int} (h : askC m k ≠ 0) : liveC m k = askC m k := by unfold liveC; rw [if_neg h]
theorem live_yes {m : Mc} {k : Int} (h : askC m k = 0) (h1 : hasB (liveL m) k = true) : liveC m k = 0 := by unfold liveC; rw [if_pos h, if_pos h1]
theorem live_no {m : Mc} {k : Int} (h : askC m k = 0) (h1 : hasB (liveL m) k = false) : liveC m k = 6 := by unfold liveC; rw [if_pos h, if_neg (by rw [h1]; decide)]
theorem live_zero {m : Mc} {k : Int} (h : liveC m k = 0) : okM m = true ∧ 0 ≤ k ∧ k < m.ls.length := by
  unfold liveC at h
  split at h
  · rename_i h1; exact ask_zero h1
  · rename_i h1; exact absurd h h1

set_option maxHeartbeats 4000000 in
set_option maxRecDepth 100000 in
theorem liveCode_any (v : Value) (m : Mc) (k : Int) (w : World) (hl : RdM w w.heap.size v m) :
    Calls Try.prog 90 #[v, .int .i64 k] w fun e w' => e = .returned (.int .i64 (liveC m k)) ∧ Below w.heap.size w w' := by
  have hl0 := hl
  obtain ⟨f, b, cs, ls, d, rfl, h1, h2, h3, h4, h5, h6⟩ := hl
  obtain ⟨AF, cF, rfl⟩ := RdN.shape h1
  obtain ⟨AG, cG, rfl⟩ := RdN.shape h2
  obtain ⟨AC, cC, rfl⟩ := RdS.lens h3
  obtain ⟨AI, cI, rfl⟩ := RdN.shape h4
  obtain ⟨AD, cD, rfl⟩ := RdI.len h5
  have BW := Lib.hid (show Below w.heap.size w (w.alloc (.cells #[.int .i64 m.wd, .int .i64 m.rk, .slice AF m.fr.length cF, .slice AG m.bk.length cG, .slice AC m.cs.length cC, .slice AI m.ls.length cI, .slice AD m.dr.length cD] 34)) from (Below.refl _ _).alloc (Nat.le_refl _) _)
  have HP := Lib.hid (RdP.box (T := 34) h1 h2 h3 h4 h5 h6)
  have HM := Lib.hid (hl0.up BW.out BW.out.size)
  clear h1 h2 h3 h4 h5 h6 hl0
  have HQ := Lib.hid (loopCode_any _ m k _ HM.out)
  by_cases ha : askC m k = 0
  case neg =>
    have HN := Lib.hid (live_ask ha)
    have e0 : (askC m k != 0) = true := by simpa using ha
    rw [HN.out]
    generalize askC m k = A at *
    go_enter Try.func90, Try.ntmps90
    go_wp2_with fail
    refine (HQ.out).mono ?_
    rintro e w1 ⟨rfl, hb⟩
    have HB := Lib.hid (BW.out.trans (hb.mono BW.out.size))
    clear hb
    go_wp2
    go_ret
    exact ⟨rfl, HB.out⟩
  obtain ⟨hok, hk0, hk1⟩ := ask_zero ha
  have HOK := Lib.hid hok
  have HAA := Lib.hid ha
  obtain ⟨kn, rfl⟩ := Int.eq_ofNat_of_zero_le hk0
  have hkn : kn < m.ls.length := by omega
  cases hl2 : hasB (liveL m) (kn : Int)
  all_goals
    first
      | have HN := Lib.hid (live_no ha hl2)
      | have HN := Lib.hid (live_yes ha hl2)
    rw [HN.out]
    have HL2 := Lib.hid hl2
    clear ha hok hl2
    go_enter Try.func90, Try.ntmps90
    go_wp2_with fail
    refine (HQ.out).mono ?_
    rintro e w1 ⟨rfl, hb⟩
    rw [HAA.out]
    have HB := Lib.hid (BW.out.trans (hb.mono BW.out.size))
    have HP1 := Lib.hid (HP.out.below hb)
    clear hb
    go_wp2_with fail
    refine (isLive_any m _ _ HP1.out HOK.out).mono ?_
    rintro e w2 ⟨rfl, hr, hb⟩
    have hc : w2.cell? ⟨w1.heap.size, kn, none⟩ = some (.bool (hasB (liveL m) (kn : Int))) := hr.cell (i := kn) hkn
    rw [HL2.out] at hc
    have HB2 := Lib.hid (HB.out.trans (hb.mono HB.out.size))
    clear hr hb
    go_wp2
    go_ret
    exact ⟨rfl, HB2.out⟩

set_option maxHeartbeats 4000000 in
set_option maxRecDepth 100000 in
theorem l12Ask_any (m : Mc) (g : Nat) (k : Int) (w : World) (h : RdP w g m) (hdr : m.dr.length ≤ 1048576) :
    Calls Try.prog 88 #[.pointer (some ⟨g, 0, none⟩), .int .i64 k] w fun e w' => e = .returned (.int .i64 (liveC m k)) ∧ Below w.heap.size w w' := by
  have HP := Lib.hid h
  have HQ := Lib.hid (l11Ask_p m g k w h hdr)
  by_cases ha : askC m k = 0
  case neg =>
    have HN := Lib.hid (live_ask ha)
    have e0 : (askC m k == 0) = false := by simpa using ha
    rw [HN.out]
    generalize askC m k = A at *
    clear h
    go_enter Try.func88, Try.ntmps88
    go_wp2_with fail
    refine (HQ.out).mono ?_
    rintro e w1 ⟨rfl, hb⟩
    have HB := Lib.hid hb
    clear hb
    go_wp2
    go_ret
    exact ⟨rfl, HB.out⟩
  obtain ⟨hok, hk0, hk1⟩ := ask_zero ha
  have HOK := Lib.hid hok
  have HAA := Lib.hid ha
  cases hl2 : hasB (liveL m) k
  all_goals
    first
      | have HN := Lib.hid (live_no ha hl2)
      | have HN := Lib.hid (live_yes ha hl2)
    rw [HN.out]
    have HL2 := Lib.hid (show (liveL m).contains k = _ from hl2)
    clear ha hok hl2 h
    go_enter Try.func88, Try.ntmps88
    go_wp2_with fail
    refine (HQ.out).mono ?_
    rintro e w1 ⟨rfl, hb⟩
    rw [HAA.out]
    have HB := Lib.hid hb
    have HP1 := Lib.hid (HP.out.below hb)
    clear hb
    go_wp2_with fail
    refine (l07Live_any m _ _ HP1.out HOK.out).mono ?_
    rintro e w2 ⟨v2, rfl, ho, hb⟩
    have HR := Lib.hid (RdI.of_own ho)
    have HB2 := Lib.hid (HB.out.trans (hb.mono HB.out.size))
    clear ho hb
    go_wp2_with fail
    refine (l00Has_any _ _ k _ HR.out).mono ?_
    rintro e w3 ⟨rfl, hb⟩
    rw [HL2.out]
    have HB3 := Lib.hid (HB2.out.trans (hb.mono HB2.out.size))
    clear hb
    go_wp2
    go_ret
    exact ⟨rfl, HB3.out⟩

set_option maxHeartbeats 4000000 in
set_option maxRecDepth 100000 in
theorem implRun_any (v : Value) (m : Mc) (k : Int) (w : World) (hl : RdM w w.heap.size v m) (hf : FitM m) :
    Calls Try.prog 45 #[v, .int .i64 k] w (GivesC w 2 1 (okList (liveC m k) (runL m k)).length (vI (okList (liveC m k) (runL m k))) (liveC m k)) := by
  have hdr := hf.dr
  have hl0 := hl
  obtain ⟨f, b, cs, ls, d, rfl, h1, h2, h3, h4, h5, h6⟩ := hl
  obtain ⟨AF, cF, rfl⟩ := RdN.shape h1
  obtain ⟨AG, cG, rfl⟩ := RdN.shape h2
  obtain ⟨AC, cC, rfl⟩ := RdS.lens h3
  obtain ⟨AI, cI, rfl⟩ := RdN.shape h4
  obtain ⟨AD, cD, rfl⟩ := RdI.len h5
  have BW := Lib.hid (show Below w.heap.size w (w.alloc (.cells #[.int .i64 m.wd, .int .i64 m.rk, .slice AF m.fr.length cF, .slice AG m.bk.length cG, .slice AC m.cs.length cC, .slice AI m.ls.length cI, .slice AD m.dr.length cD] 34)) from (Below.refl _ _).alloc (Nat.le_refl _) _)
  have HP := Lib.hid (RdP.box (T := 34) h1 h2 h3 h4 h5 h6)
  have HM := Lib.hid (hl0.up BW.out BW.out.size)
  clear h1 h2 h3 h4 h5 h6 hl0
  by_cases ha : liveC m k = 0
  case neg =>
    have HN := Lib.hid (fun w' hb => (show Below w.heap.size w w' → GivesC w 2 1 (okList (liveC m k) (runL m k)).length (vI (okList (liveC m k) (runL m k))) (liveC m k) (.returned (.tuple #[.slice none 0 0, .int .i64 (liveC m k)])) w' from fun hb => GivesC.nil ha rfl hb) hb)
    have e0 : (liveC m k != 0) = true := by simpa using ha
    have HQ := Lib.hid (liveCode_any _ m k _ HM.out)
    generalize liveC m k = A at *
    go_enter Try.func45, Try.ntmps45
    go_wp2_with fail
    refine (HQ.out).mono ?_
    rintro e w1 ⟨rfl, hb⟩
    have HB := Lib.hid (BW.out.trans (hb.mono BW.out.size))
    clear hb
    go_wp2
    go_ret2
    exact HN.out _ HB.out
  obtain ⟨hok, hk0, hk1⟩ := live_zero ha
  have HAA := Lib.hid ha
  have HOK := Lib.hid hok
  have h300 := ls_len hok
  clear ha hok
  go_enter Try.func45, Try.ntmps45
  go_wp2_with fail
  refine (liveCode_any _ m k _ HM.out).mono ?_
  rintro e w1 ⟨rfl, hb⟩
  rw [HAA.out]
  have HB := Lib.hid (BW.out.trans (hb.mono BW.out.size))
  have HP1 := Lib.hid (HP.out.below hb)
  clear hb HM HP
  go_wp2_with fail
  refine (runOf_any m _ k _ HP1.out HOK.out hk0 hk1).mono ?_
  rintro e w2 ⟨v, rfl, ho, hb⟩
  have HO := Lib.hid (ho.lo HB.out.size)
  have HB2 := Lib.hid (HB.out.trans (hb.mono HB.out.size))
  clear ho hb
  go_wp2
  go_ret2
  exact GivesC.yes HAA.out rfl HO.out HB2.out
set_option maxHeartbeats 4000000 in
set_option maxRecDepth 100000 in
theorem specRun_any (v : Value) (m : Mc) (k : Int) (w : World) (hl : RdM w w.heap.size v m) (hf : FitM m) :
    Calls Try.prog 44 #[v, .int .i64 k] w (GivesC w 2 1 (okList (liveC m k) (runL m k)).length (vI (okList (liveC m k) (runL m k))) (liveC m k)) := by
  have hdr := hf.dr
  have hl0 := hl
  obtain ⟨f, b, cs, ls, d, rfl, h1, h2, h3, h4, h5, h6⟩ := hl
  obtain ⟨AF, cF, rfl⟩ := RdN.shape h1
  obtain ⟨AG, cG, rfl⟩ := RdN.shape h2
  obtain ⟨AC, cC, rfl⟩ := RdS.lens h3
  obtain ⟨AI, cI, rfl⟩ := RdN.shape h4
  obtain ⟨AD, cD, rfl⟩ := RdI.len h5
  have BW := Lib.hid (show Below w.heap.size w (w.alloc (.cells #[.int .i64 m.wd, .int .i64 m.rk, .slice AF m.fr.length cF, .slice AG m.bk.length cG, .slice AC m.cs.length cC, .slice AI m.ls.length cI, .slice AD m.dr.length cD] 34)) from (Below.refl _ _).alloc (Nat.le_refl _) _)
  have HP := Lib.hid (RdP.box (T := 34) h1 h2 h3 h4 h5 h6)
  have HM := Lib.hid (hl0.up BW.out BW.out.size)
  clear h1 h2 h3 h4 h5 h6 hl0
  by_cases ha : liveC m k = 0
  case neg =>
    have HN := Lib.hid (fun w' hb => (show Below w.heap.size w w' → GivesC w 2 1 (okList (liveC m k) (runL m k)).length (vI (okList (liveC m k) (runL m k))) (liveC m k) (.returned (.tuple #[.slice none 0 0, .int .i64 (liveC m k)])) w' from fun hb => GivesC.nil ha rfl hb) hb)
    have e0 : (liveC m k != 0) = true := by simpa using ha
    have HQ := Lib.hid (l12Ask_any m _ k _ HP.out hdr)
    generalize liveC m k = A at *
    go_enter Try.func44, Try.ntmps44
    go_wp2_with fail
    refine (HQ.out).mono ?_
    rintro e w1 ⟨rfl, hb⟩
    have HB := Lib.hid (BW.out.trans (hb.mono BW.out.size))
    clear hb
    go_wp2
    go_ret2
    exact HN.out _ HB.out
  obtain ⟨hok, hk0, hk1⟩ := live_zero ha
  have HAA := Lib.hid ha
  have HOK := Lib.hid hok
  have h300 := ls_len hok
  clear ha hok
  go_enter Try.func44, Try.ntmps44
  go_wp2_with fail
  refine (l12Ask_any m _ k _ HP.out hdr).mono ?_
  rintro e w1 ⟨rfl, hb⟩
  rw [HAA.out]
  have HB := Lib.hid (BW.out.trans (hb.mono BW.out.size))
  have HP1 := Lib.hid (HP.out.below hb)
  clear hb HM HP
  go_wp2_with fail
  refine (l12Run_any m _ k _ HP1.out HOK.out).mono ?_
  rintro e w2 ⟨v, rfl, ho, hb⟩
  have HO := Lib.hid (ho.lo HB.out.size)
  have HB2 := Lib.hid (HB.out.trans (hb.mono HB.out.size))
  clear ho hb
  go_wp2
  go_ret2
  exact GivesC.yes HAA.out rfl HO.out HB2.out

/-- What LadderOf answers. -/
def ladV (m : Mc) (k : Int) : Int := if liveC m k = 0 then (ladN (runL m k) (waleL m k) : Int) else 0
def ladR (m : Mc) (k : Int) (e : Ending) : Prop := e = .returned (.tuple #[.int .i64 (ladV m k), .int .i64 (liveC m k)])
theorem ladN_le (r : List Int) : ∀ l : List Int, ladN r l ≤ l.length
  | [] => Nat.le_refl _
  | x :: t => by
    have := ladN_le r t
    rw [ladN]
    split <;> simp <;> omega
theorem lad_yes {r l : List Int} {N k : Nat} {x : Int} (h : N = k + ladN r (l.drop k)) (hx : l[k]? = some x) (hc : r.contains x = true) : N = (k + 1) + ladN r (l.drop (k + 1)) := by
  rw [h, drop_of_get hx, ladN, if_pos hc]; omega
theorem lad_no {r l : List Int} {N k : Nat} {x : Int} (h : N = k + ladN r (l.drop k)) (hx : l[k]? = some x) (hc : r.contains x = false) : N = k := by
  rw [h, drop_of_get hx, ladN, if_neg (by rw [hc]; decide)]; rfl
theorem lad_end {r l : List Int} {N k : Nat} (h : N = k + ladN r (l.drop k)) (hl : l.length ≤ k) : N = k := by
  rw [h, List.drop_of_length_le hl]; rfl

set_option maxHeartbeats 8000000 in
set_option maxRecDepth 100000 in
theorem implLadder_any (v : Value) (m : Mc) (k : Int) (w : World) (hl : RdM w w.heap.size v m) (hf : FitM m) :
    Calls Try.prog 43 #[v, .int .i64 k] w fun e w' => ladR m k e ∧ Below w.heap.size w w' := by
  have hdr := hf.dr
  have hl0 := hl
  obtain ⟨f, b, cs, ls, d, rfl, h1, h2, h3, h4, h5, h6⟩ := hl
  obtain ⟨AF, cF, rfl⟩ := RdN.shape h1
  obtain ⟨AG, cG, rfl⟩ := RdN.shape h2
  obtain ⟨AC, cC, rfl⟩ := RdS.lens h3
  obtain ⟨AI, cI, rfl⟩ := RdN.shape h4
  obtain ⟨AD, cD, rfl⟩ := RdI.len h5
  have BW := Lib.hid (show Below w.heap.size w (w.alloc (.cells #[.int .i64 m.wd, .int .i64 m.rk, .slice AF m.fr.length cF, .slice AG m.bk.length cG, .slice AC m.cs.length cC, .slice AI m.ls.length cI, .slice AD m.dr.length cD] 34)) from (Below.refl _ _).alloc (Nat.le_refl _) _)
  have HP := Lib.hid (RdP.box (T := 34) h1 h2 h3 h4 h5 h6)
  have HM := Lib.hid (hl0.up BW.out BW.out.size)
  clear h1 h2 h3 h4 h5 h6 hl0
  by_cases ha : liveC m k = 0
  case neg =>
    have HN := Lib.hid (fun w' hb => (show Below w.heap.size w w' → ladR m k (.returned (.tuple #[.int .i64 0, .int .i64 (liveC m k)])) ∧ Below w.heap.size w w' from fun hb => ⟨by unfold ladR ladV; rw [if_neg ha], hb⟩) hb)
    have e0 : (liveC m k != 0) = true := by simpa using ha
    have HQ := Lib.hid (liveCode_any _ m k _ HM.out)
    generalize liveC m k = A at *
    go_enter Try.func43, Try.ntmps43
    go_wp2_with fail
    refine (HQ.out).mono ?_
    rintro e w1 ⟨rfl, hb⟩
    have HB := Lib.hid (BW.out.trans (hb.mono BW.out.size))
    clear hb
    go_wp2
    go_ret2
    exact HN.out _ HB.out
  obtain ⟨hok, hk0, hk1⟩ := live_zero ha
  have HAA := Lib.hid ha
  have HOK := Lib.hid hok
  have h300 := ls_len hok
  clear ha hok
  go_enter Try.func43, Try.ntmps43
  go_wp2_with fail
  refine (liveCode_any _ m k _ HM.out).mono ?_
  rintro e w1 ⟨rfl, hb⟩
  rw [HAA.out]
  have HB := Lib.hid (BW.out.trans (hb.mono BW.out.size))
  have HP1 := Lib.hid (HP.out.below hb)
  clear hb HM HP
  go_wp2_with fail
  refine (runOf_any m _ k _ HP1.out HOK.out hk0 hk1).mono ?_
  rintro e w2 ⟨v2, rfl, ho, hb⟩
  have HR2 := Lib.hid (RdI.of_own ho)
  have HB2 := Lib.hid (HB.out.trans (hb.mono HB.out.size))
  have HP2 := Lib.hid (HP1.out.below hb)
  clear ho hb
  go_wp2_with fail
  refine (wale_any m _ k _ HP2.out HOK.out hk0 hk1).mono ?_
  rintro e w3 ⟨v3, rfl, ho, hb⟩
  obtain ⟨A3, c3, rfl, -⟩ := ho.cells
  have HW3 := Lib.hid (RdI.of_own ho)
  have HR3 := Lib.hid ((HR2.out.below hb).more hb.size)
  have HB3 := Lib.hid (HB2.out.trans (hb.mono HB2.out.size))
  clear ho hb
  have HAN := Lib.hid (show ladR m k = fun e => e = .returned (.tuple #[.int .i64 (ladN (runL m k) (waleL m k) : Int), .int .i64 0]) by funext e; unfold ladR ladV; rw [HAA.out]; rfl)
  have hwl : (waleL m k).length ≤ 302 := by have := waleT_len m (k.toNat + 1) k; simp only [waleL, List.length_cons]; omega
  generalize hr : runL m k = R at *
  generalize hw : waleL m k = W at *
  have HL0 := Lib.hid (show ladN R W = 0 + ladN R (W.drop 0) by simp)
  generalize hL : ladN R W = L at *
  generalize hN : W.length = N at *
  have HN := Lib.hid hN
  have HRES := Lib.hid (fun (q : Nat) (h : L = q) => show ladR m k (.returned (.tuple #[.int .i64 (q : Int), .int .i64 0])) from by subst h; exact (congrFun HAN.out _).mpr rfl)
  clear hL hN hr hw
  go_wp2
  go_loopw [8, 22] (fun t i wr => ∃ q : Nat, q ≤ N ∧ t = .int .i64 q ∧ i = .int .i64 q ∧ Hid (L = q + ladN R (W.drop q)) ∧ Below w3.heap.size w3 wr) (fun _ i _ => N - (intOf i).toNat)
  case atStart => exact ⟨0, Nat.zero_le _, rfl, rfl, HL0.out, Below.refl _ _⟩
  case round =>
    rename_i wr
    obtain ⟨q, hq, rfl, rfl, hd, hb⟩ := hrel
    by_cases hlt : q < N
    · obtain ⟨b, off, y, rfl, hbb, hlk, hcc⟩ := (HW3.out.below hb).at_ hlt
      have HB := Lib.hid hb
      have HQ := Lib.hid (containsI_any _ R y _ ((HR3.out.below hb).more hb.size))
      cases hy : R.contains y
      · have HD := Lib.hid (lad_no hd.out hlk hy)
        rw [hy] at HQ
        clear hb hd hlk hy
        go_wp2_with fail
        refine HQ.out.mono ?_
        rintro e w4 ⟨rfl, hb4⟩
        have HB4 := Lib.hid (HB3.out.trans ((HB.out.trans (hb4.mono HB.out.size)).mono HB3.out.size))
        clear hb4
        go_wp2
        go_ret2
        exact ⟨HRES.out _ HD.out, HB4.out⟩
      · have HD := Lib.hid (lad_yes hd.out hlk hy)
        rw [hy] at HQ
        clear hb hd hlk hy
        go_wp2_with fail
        refine HQ.out.mono ?_
        rintro e w4 ⟨rfl, hb4⟩
        have HB4 := Lib.hid (HB.out.trans (hb4.mono HB.out.size))
        clear hb4
        go_wp2
        exact ⟨⟨q + 1, by omega, by go_num, by go_num, HD.out, HB4.out⟩, by simp [intOf]; omega⟩
    · have HD := Lib.hid (lad_end hd.out (by have := HN.out; omega))
      have HB4 := Lib.hid (HB3.out.trans (hb.mono HB3.out.size))
      clear hb hd
      go_wp2
      go_ret2
      exact ⟨HRES.out _ HD.out, HB4.out⟩

set_option maxHeartbeats 8000000 in
set_option maxRecDepth 100000 in
theorem specLadder_any (v : Value) (m : Mc) (k : Int) (w : World) (hl : RdM w w.heap.size v m) (hf : FitM m) :
    Calls Try.prog 42 #[v, .int .i64 k] w fun e w' => ladR m k e ∧ Below w.heap.size w w' := by
  have hdr := hf.dr
  have hl0 := hl
  obtain ⟨f, b, cs, ls, d, rfl, h1, h2, h3, h4, h5, h6⟩ := hl
  obtain ⟨AF, cF, rfl⟩ := RdN.shape h1
  obtain ⟨AG, cG, rfl⟩ := RdN.shape h2
  obtain ⟨AC, cC, rfl⟩ := RdS.lens h3
  obtain ⟨AI, cI, rfl⟩ := RdN.shape h4
  obtain ⟨AD, cD, rfl⟩ := RdI.len h5
  have BW := Lib.hid (show Below w.heap.size w (w.alloc (.cells #[.int .i64 m.wd, .int .i64 m.rk, .slice AF m.fr.length cF, .slice AG m.bk.length cG, .slice AC m.cs.length cC, .slice AI m.ls.length cI, .slice AD m.dr.length cD] 34)) from (Below.refl _ _).alloc (Nat.le_refl _) _)
  have HP := Lib.hid (RdP.box (T := 34) h1 h2 h3 h4 h5 h6)
  have HM := Lib.hid (hl0.up BW.out BW.out.size)
  clear h1 h2 h3 h4 h5 h6 hl0
  by_cases ha : liveC m k = 0
  case neg =>
    have HN := Lib.hid (fun w' hb => (show Below w.heap.size w w' → ladR m k (.returned (.tuple #[.int .i64 0, .int .i64 (liveC m k)])) ∧ Below w.heap.size w w' from fun hb => ⟨by unfold ladR ladV; rw [if_neg ha], hb⟩) hb)
    have e0 : (liveC m k != 0) = true := by simpa using ha
    have HQ := Lib.hid (l12Ask_any m _ k _ HP.out hdr)
    generalize liveC m k = A at *
    go_enter Try.func42, Try.ntmps42
    go_wp2_with fail
    refine (HQ.out).mono ?_
    rintro e w1 ⟨rfl, hb⟩
    have HB := Lib.hid (BW.out.trans (hb.mono BW.out.size))
    clear hb
    go_wp2
    go_ret2
    exact HN.out _ HB.out
  obtain ⟨hok, hk0, hk1⟩ := live_zero ha
  have HAA := Lib.hid ha
  have HOK := Lib.hid hok
  have h300 := ls_len hok
  clear ha hok
  go_enter Try.func42, Try.ntmps42
  go_wp2_with fail
  refine (l12Ask_any m _ k _ HP.out hdr).mono ?_
  rintro e w1 ⟨rfl, hb⟩
  rw [HAA.out]
  have HB := Lib.hid (BW.out.trans (hb.mono BW.out.size))
  have HP1 := Lib.hid (HP.out.below hb)
  clear hb HM HP
  go_wp2_with fail
  refine (l12Run_any m _ k _ HP1.out HOK.out).mono ?_
  rintro e w2 ⟨v2, rfl, ho, hb⟩
  have HR2 := Lib.hid (RdI.of_own ho)
  have HB2 := Lib.hid (HB.out.trans (hb.mono HB.out.size))
  have HP2 := Lib.hid (HP1.out.below hb)
  clear ho hb
  go_wp2_with fail
  refine (l11Wale_any m _ k _ HP2.out HOK.out hk0 hk1).mono ?_
  rintro e w3 ⟨v3, rfl, ho, hb⟩
  obtain ⟨A3, c3, rfl, -⟩ := ho.cells
  have HW3 := Lib.hid (RdI.of_own ho)
  have HR3 := Lib.hid ((HR2.out.below hb).more hb.size)
  have HB3 := Lib.hid (HB2.out.trans (hb.mono HB2.out.size))
  clear ho hb
  have HAN := Lib.hid (show ladR m k = fun e => e = .returned (.tuple #[.int .i64 (ladN (runL m k) (waleL m k) : Int), .int .i64 0]) by funext e; unfold ladR ladV; rw [HAA.out]; rfl)
  have hwl : (waleL m k).length ≤ 302 := by have := waleT_len m (k.toNat + 1) k; simp only [waleL, List.length_cons]; omega
  generalize hr : runL m k = R at *
  generalize hw : waleL m k = W at *
  have HL0 := Lib.hid (show ladN R W = 0 + ladN R (W.drop 0) by simp)
  generalize hL : ladN R W = L at *
  generalize hN : W.length = N at *
  have HN := Lib.hid hN
  have HRES := Lib.hid (fun (q : Nat) (h : L = q) => show ladR m k (.returned (.tuple #[.int .i64 (q : Int), .int .i64 0])) from by subst h; exact (congrFun HAN.out _).mpr rfl)
  clear hL hN hr hw
  go_wp2
  go_loopw [9] (fun i wr => ∃ q : Nat, q ≤ N ∧ i = .int .i64 q ∧ Hid (L = q + ladN R (W.drop q)) ∧ Below w3.heap.size w3 wr) (fun i _ => N - (intOf i).toNat)
  case atStart => exact ⟨0, Nat.zero_le _, rfl, HL0.out, Below.refl _ _⟩
  case round =>
    rename_i wr
    obtain ⟨q, hq, rfl, hd, hb⟩ := hrel
    by_cases hlt : q < N
    · obtain ⟨b, off, y, rfl, hbb, hlk, hcc⟩ := (HW3.out.below hb).at_ hlt
      have HB := Lib.hid hb
      have HQ := Lib.hid (l00Has_any _ R y _ ((HR3.out.below hb).more hb.size))
      have hlt' : (q : Int) < (N : Int) := by omega
      cases hy : R.contains y
      · have HD := Lib.hid (lad_no hd.out hlk hy)
        rw [hy] at HQ
        clear hb hd hlk hy
        go_wp2_with fail
        refine HQ.out.mono ?_
        rintro e w4 ⟨rfl, hb4⟩
        have HB4 := Lib.hid (HB3.out.trans ((HB.out.trans (hb4.mono HB.out.size)).mono HB3.out.size))
        clear hb4
        go_wp2
        go_ret2
        exact ⟨HRES.out _ HD.out, HB4.out⟩
      · have HD := Lib.hid (lad_yes hd.out hlk hy)
        rw [hy] at HQ
        clear hb hd hlk hy
        go_wp2_with fail
        refine HQ.out.mono ?_
        rintro e w4 ⟨rfl, hb4⟩
        have HB4 := Lib.hid (HB.out.trans (hb4.mono HB.out.size))
        clear hb4
        go_wp2
        exact ⟨⟨q + 1, by omega, by go_num, HD.out, HB4.out⟩, by simp [intOf]; omega⟩
    · have HD := Lib.hid (lad_end hd.out (by have := HN.out; omega))
      have HB4 := Lib.hid (HB3.out.trans (hb.mono HB3.out.size))
      clear hb hd
      go_wp2
      go_ret2
      exact ⟨HRES.out _ HD.out, HB4.out⟩

end Go.Proofs.Ytbffmekhhfhacaa
