/-
  Texts joined: GarG, GarH, Nfw, GarI.
-/
import Derived.Test.YtccdnmafakaleaaGreatDoorPk1
import Derived.Test.YtccdnmafakaleaaGreatDoorPk2
import Derived.Deep.RegionHeld3
import Derived.Test.YtccdnmafakaleaaGreatDoorBraidE
import Derived.Test.YtccdnmafakaleaaGreatDoorGar2
/-
  Factors settled, of the reference: l04Settle.
-/
namespace Go.Proofs.YtccdnmafakaleaaGreatDoor
set_option linter.unusedVariables false
set_option linter.unusedSimpArgs false
open Go.RowKit

/-- No letter can move at the first j places. -/
def Pref (n : Nat) (L : List Pm) (j : Nat) : Prop := ∀ (i : Nat) (p q : Pm), i < j → L[i]? = some p → L[i + 1]? = some q → ∀ k, 1 ≤ k → k < n → q.start k → p.fin k
theorem sett_of_pref {n : Nat} : ∀ {L : List Pm} {j : Nat}, L.length ≤ j + 1 → Pref n L j → Sett n L
  | [], _, _, _ => sett_nil n
  | [p], _, _, _ => sett_single n p
  | p :: q :: L, j, hj, h => by
    simp only [List.length_cons] at hj
    refine sett_cons.2 ⟨h 0 p q (by omega) rfl rfl, ?_⟩
    obtain ⟨j, rfl⟩ : ∃ i, j = i + 1 := ⟨j - 1, by omega⟩
    exact sett_of_pref (j := j) (by simp only [List.length_cons]; omega) fun i a b hi h1 h2 => h (i + 1) a b (by omega) h1 h2
theorem Pref.next {n : Nat} {L : List Pm} {j : Nat} {p q : Pm} (h : Pref n L j) (hp : L[j]? = some p) (hq : L[j + 1]? = some q) (hs : ∀ k, 1 ≤ k → k < n → q.start k → p.fin k) : Pref n L (j + 1) := by
  intro i a b hi h1 h2
  by_cases hij : i = j
  · subst hij
    rw [hp] at h1
    rw [hq] at h2
    injection h1 with h1
    injection h2 with h2
    subst h1 h2
    exact hs
  · exact h i a b (by omega) h1 h2
theorem mv_at {n : Nat} : ∀ {L : List Pm} {i : Nat} {p q : Pm} {k : Nat} (hk : 1 ≤ k), k < n → q.start k → ¬ p.fin k → L[i]? = some p → L[i + 1]? = some q → Mv n L ((L.set i (p.behind k hk)).set (i + 1) (q.before k hk))
  | [], i, _, _, _, _, _, _, _, h, _ => by simp at h
  | [a], i, _, _, _, _, _, _, _, _, h => by simp at h
  | a :: b :: L, 0, p, q, k, hk, hn, hs, hf, h1, h2 => by
    simp at h1 h2
    subst h1 h2
    exact .here k hk hn hs hf
  | a :: b :: L, i + 1, p, q, k, hk, hn, hs, hf, h1, h2 => by
    rw [List.set_cons_succ, List.set_cons_succ]
    exact .cons (mv_at (L := b :: L) (i := i) hk hn hs hf (by simpa using h1) (by simpa using h2))
theorem lstL_set (n : Nat) (L : List Pm) (i : Nat) (p : Pm) : (lstL n L).set i (lst n p) = lstL n (L.set i p) := (List.map_set ..).symm
theorem exP_zero {n : Nat} {p q : Pm} (h : exP n p q = 0) : ∀ k, 1 ≤ k → k < n → q.start k → p.fin k := by
  rcases exP_cases n p q with ⟨_, h1⟩ | ⟨k, h1, h2, _⟩
  · exact h1
  · rw [h1] at h; omega
theorem exP_pos {n : Nat} {p q : Pm} (h : exP n p q ≠ 0) : ∃ k : Nat, exP n p q = k ∧ 1 ≤ k ∧ k < n ∧ q.start k ∧ ¬ p.fin k := by
  rcases exP_cases n p q with ⟨h1, _⟩ | h1
  · exact absurd h1 h
  · exact h1
/-- Neither the identity nor the half twist. -/
def isMid (n : Nat) (p : Pm) : Bool := !decide (lst n p = lst n Pm.one) && !decide (lst n p = lst n (Pm.half n))
def isTw (n : Nat) (p : Pm) : Bool := !decide (lst n p = lst n Pm.one) && decide (lst n p = lst n (Pm.half n))
theorem mid_nfm {n a b : Nat} (hn : 2 ≤ n) {F : List Pm} (hF : Good n F) (ho : AllOn n F) : (nfm n a F b).filter (isMid n) = F ∧ ((nfm n a F b).filter (isTw n)).length = a := by
  have h1 : isMid n (Pm.half n) = false := by simp [isMid]
  have h2 : isMid n Pm.one = false := by simp [isMid]
  have h3 : isTw n (Pm.half n) = true := by
    unfold isTw
    rw [Bool.and_eq_true]
    refine ⟨?_, by simp⟩
    simp only [Bool.not_eq_true', decide_eq_false_iff_not]
    intro e
    exact half_ne hn (lst_inj (Pm.on_half n) (Pm.on_one n) e)
  have h4 : isTw n Pm.one = false := by simp [isTw]
  have hm : ∀ p ∈ F, isMid n p = true := fun p hp => by
    obtain ⟨g1, g2⟩ := hF p hp
    unfold isMid
    rw [Bool.and_eq_true]
    simp only [Bool.not_eq_true', decide_eq_false_iff_not]
    exact ⟨fun e => g1 (lst_inj (ho p hp) (Pm.on_one n) e), fun e => g2 (lst_inj (ho p hp) (Pm.on_half n) e)⟩
  have ht : ∀ p ∈ F, isTw n p = false := fun p hp => by
    obtain ⟨g1, g2⟩ := hF p hp
    unfold isTw
    rw [Bool.and_eq_false_iff]
    right
    simp only [decide_eq_false_iff_not]
    exact fun e => g2 (lst_inj (ho p hp) (Pm.on_half n) e)
  unfold nfm
  constructor
  · rw [List.filter_append, List.filter_append, List.filter_replicate, List.filter_replicate, h1, h2, List.filter_eq_self.2 hm]
    simp
  · rw [List.filter_append, List.filter_append, List.filter_replicate, List.filter_replicate, h3, h4]
    rw [List.filter_eq_nil_iff.2 (fun p hp => by rw [ht p hp]; decide)]
    simp

set_option maxHeartbeats 1000000 in
theorem l04Is_any (u v : Value) (a b : List Int) (w : World) (hu : RdI w w.heap.size u a) (hv : RdI w w.heap.size v b) :
    Calls Tryz.prog 59 #[u, v] w fun e w' => e = .returned (.bool (decide (a = b))) ∧ Below w.heap.size w w' := by
  have HQ := Lib.hid (specSame_any u v a b w _ hu hv (Nat.le_refl _))
  obtain ⟨A, c, rfl⟩ := hu.len
  obtain ⟨A', c', rfl⟩ := hv.len
  clear hu hv
  go_enter Tryz.func59, Tryz.ntmps59
  go_wp2_with fail
  refine HQ.out.mono ?_
  rintro e w1 ⟨rfl, hb⟩
  have HB := Lib.hid hb
  clear hb
  go_wp2
  go_ret
  exact ⟨rfl, HB.out⟩

set_option maxHeartbeats 8000000 in
set_option maxRecDepth 100000 in
theorem l04Settle_any (n : Nat) (hn2 : 2 ≤ n) (hn : n ≤ 12) (L : List Pm) (hL : AllOn n L) (hlen : L.length ≤ 5000) (v : Value) (w : World) (hv : RdL2 w w.heap.size v (lstL n L)) :
    Calls Tryz.prog 50 #[.int .i64 (n : Int), v] w fun e w' => ∃ (a : Nat) (F : List Pm) (A : Option Addr) (c : Nat), e = .returned (.tuple #[.int .i64 (a : Int), .slice A F.length c]) ∧ Nrm n L a F ∧ Below w.heap.size w w' := by
  obtain ⟨A, c, rfl⟩ := hv.shape
  rw [List.length_map] at hv
  rw [List.length_map]
  obtain ⟨i0, hi, hy0, hy1, hy2⟩ := info_parts info_hd
  obtain ⟨hs, hhl, -, hrd, hone, hrx⟩ := hv.heads
  have HS := Lib.hid hhl
  have HRD := Lib.hid hrd
  have HX := Lib.hid hrx
  have HON := Lib.hid hone
  generalize hm : L.length = m at *
  have HM := Lib.hid hm
  clear hv hhl hrd hrx hone hm
  go_enter Tryz.func50, Tryz.ntmps50
  go_wp2_with (at_builtin; refine wpList_append_any _ rfl _ _ _ rfl w.heap.size 37 i0 _ 1 24 Tryz.underlying72 hi hy0 hy1 hy2 rfl (by decide) _ 0 [] rfl (World.ownsRow_lit _ _ _ (Nat.le_refl _) (by unfold maxLen; omega) rfl) w.heap.size _ m c hs rfl (HRD.out.alloc (Nat.le_refl _) _) HON.out (by unfold maxLen; omega) (by omega) (by simp) ?_)
  intro v1 w1 hown hg hat
  have HB0 := Lib.hid (((Below.refl w.heap.size w).alloc (Nat.le_refl _) _).grown hg (by simp) (fun kk hkk => by simp [Value.ownBlock] at hkk; omega))
  have HH0 : Hid (HRow w1 w.heap.size v1 (lstL n L) hs) := by
    have ho : w1.ownsRow w.heap.size 37 1 v1 m hs := by simpa using hown
    refine ⟨by rw [List.length_map, HM.out]; exact ho, fun k s x h1 h2 => ?_⟩
    exact (HX.out k s x h1 h2 |>.below HB0.out).rdA fun b hb => ⟨by have := HB0.out.size; omega, fun e => by have := (ho.lt b e).1; omega⟩
  have hz1 := HB0.out.size
  clear hown hg hat
  obtain ⟨A1, c1, rfl⟩ : ∃ A1 c1, v1 = .slice A1 m c1 := by obtain ⟨A1, c1, e⟩ := HH0.out.shape'; rw [List.length_map, HM.out] at e; exact ⟨A1, c1, e⟩
  go_wp2
  go_loopg [7] (mes n L + 1) (fun gk ch wr => ∃ (cb : Bool) (M : List Pm) (gs : List Value), ch = .bool cb ∧ Hid (M.length = m) ∧ Hid (HRow wr w.heap.size (.slice A1 m c1) (lstL n M) gs) ∧ Hid (Rch n L M) ∧ Hid (cb = false → Sett n M) ∧ Hid (gk = if cb then mes n M + 1 else 0) ∧ Below w.heap.size w wr)
  case atStart => exact ⟨true, L, hs, rfl, HM.out, HH0.out, .refl, fun h => (by cases h), rfl, HB0.out⟩
  case round =>
    obtain ⟨cb, M, gs, rfl, HML, HH, HR, HSE, HGK, hb⟩ := hrel
    have HB := Lib.hid hb
    clear hb
    cases cb
    · -- settled
      have HSE2 := Lib.hid (HSE.out rfl)
      have HGL := Lib.hid (show gs.length = m by rw [HH.out.hlen, List.length_map, HML.out])
      obtain ⟨wo, rfl⟩ : ∃ x : World, x = wr := ⟨_, rfl⟩
      go_wp2
      go_loopg [10, 11, 12] m (fun gk t o i wi => ∃ (k : Nat) (xs : List Value), gk = m - k ∧ k ≤ m ∧ i = .int .i64 k ∧ t = .int .i64 ((((M.take k).filter (isTw n)).length : Nat) : Int) ∧ Hid (wi.ownsRow wo.heap.size 37 1 o ((M.take k).filter (isMid n)).length xs) ∧ Below wo.heap.size wo wi)
      case atStart => exact ⟨0, [], rfl, Nat.zero_le _, rfl, rfl, World.ownsRow_lit _ _ _ (Nat.le_refl _) (by unfold maxLen; omega) rfl, (Below.refl _ _).alloc (Nat.le_refl _) _⟩
      case round =>
        obtain ⟨wi, rfl⟩ : ∃ x : World, x = wr := ⟨_, rfl⟩
        obtain ⟨k, xs, rfl, hk, rfl, rfl, HO, hbi⟩ := hrel
        have HBI := Lib.hid hbi
        have hzi := hbi.size
        have hzo := HB.out.size
        clear hbi
        by_cases hlt : k < m
        · obtain ⟨p, hp⟩ : ∃ p, M[k]? = some p := ⟨_, List.getElem?_eq_getElem (by rw [HML.out]; omega)⟩
          obtain ⟨s, hs⟩ : ∃ u, gs[k]? = some u := ⟨_, List.getElem?_eq_getElem (by rw [HGL.out]; omega)⟩
          have HHI := Lib.hid (HH.out.below HBI.out)
          obtain ⟨g, cap, he, hglo, hghi⟩ := HHI.out.shape (by rw [List.length_map, HML.out]; omega)
          injection he with he he2 he3
          clear he2 he3
          subst he
          have HRS := Lib.hid (HHI.out.rd k s (lst n p) hs (by simp [lstL, hp]))
          obtain ⟨As, cs, rfl⟩ := HRS.out.len
          have e0 := (HHI.out.cell hs).1
          have HE := Lib.hid e0
          have HTK := Lib.hid (take_next hp)
          have hlm : ((M.take k).filter (isMid n)).length ≤ k := Nat.le_trans (List.length_filter_le _ _) (by rw [List.length_take]; omega)
          have hlt2 : ((M.take k).filter (isTw n)).length ≤ k := Nat.le_trans (List.length_filter_le _ _) (by rw [List.length_take]; omega)
          have HRD1 := Lib.hid (fun w3 (h : Below wi.heap.size wi w3) => (HRS.out.rd (B := wi.heap.size) fun b hb => hb.1).up h h.size)
          have hgi : g < wi.heap.size := (HHI.out.own.lt g rfl).2
          clear hp hs
          cases c1 : decide (lst n p = lst n Pm.one)
          · cases c2 : decide (lst n p = lst n (Pm.half n))
            · have HN1 := Lib.hid (show (M.take (k + 1)).filter (isMid n) = (M.take k).filter (isMid n) ++ [p] by rw [HTK.out, List.filter_append, show [p].filter (isMid n) = [p] from List.filter_eq_self.2 (by intro q hq; simp at hq; subst hq; unfold isMid; rw [c1, c2]; rfl)])
              have HN2 := Lib.hid (show (M.take (k + 1)).filter (isTw n) = (M.take k).filter (isTw n) by rw [HTK.out, List.filter_append, show [p].filter (isTw n) = [] from List.filter_eq_nil_iff.2 (by intro q hq; simp at hq; subst hq; unfold isTw; rw [c2]; simp)]; simp)
              have C1 := Lib.hid c1
              have C2 := Lib.hid c2
              clear c1 c2
              generalize hfl : (M.take k).filter (isMid n) = fl at *
              generalize htl : (M.take k).filter (isTw n) = tl at *
              clear hfl htl
              go_wp2
              go_region_with ((first | (go_at_call 47; refine (l04Identity_any n hn _).mono ?_; rintro e wa1 ⟨va1, rfl, hoa1, hba1⟩; obtain ⟨Aa1, ca1, rfl, -⟩ := hoa1.cells; have hbx1 : Below wi.heap.size wi wa1 := (Below.refl wi.heap.size wi).trans (((Below.refl wi.heap.size wi).drew.trans hba1).mono (Below.refl wi.heap.size wi).size); have ea1 : wa1.cell? ⟨g, k, none⟩ = some (.slice As (lst n p).length cs) := (hbx1.cell (p := ⟨g, k, none⟩) hgi).trans HE.out; have HOa1 := Lib.hid (RdI.of_own hoa1); have HXa1 := Lib.hid hbx1) | (go_at_call 59; refine (l04Is_any _ _ (lst n p) (lst n Pm.one) _ (HRD1.out _ HXa1.out) HOa1.out).mono ?_; rintro e wb1 ⟨rfl, hbb1⟩; rw [C1.out]; have hby1 : Below wi.heap.size wi wb1 := HXa1.out.trans (hbb1.mono HXa1.out.size))))
              all_goals
                have eb1 := (hby1.cell (p := ⟨g, k, none⟩) hgi).trans HE.out
                have HY1 := Lib.hid hby1
                clear hby1 hbx1 hoa1 hba1 hbb1 ea1
                go_wp2
                go_region_with ((first | (go_at_call 49; refine (l04Half_any n hn _).mono ?_; rintro e wa2 ⟨va2, rfl, hoa2, hba2⟩; obtain ⟨Aa2, ca2, rfl, -⟩ := hoa2.cells; have hbx2 : Below wi.heap.size wi wa2 := HY1.out.trans (((Below.refl wb1.heap.size wb1).drew.trans hba2).mono HY1.out.size); have ea2 : wa2.cell? ⟨g, k, none⟩ = some (.slice As (lst n p).length cs) := (hbx2.cell (p := ⟨g, k, none⟩) hgi).trans HE.out; have HOa2 := Lib.hid (RdI.of_own hoa2); have HXa2 := Lib.hid hbx2) | (go_at_call 59; refine (l04Is_any _ _ (lst n p) (lst n (Pm.half n)) _ (HRD1.out _ HXa2.out) HOa2.out).mono ?_; rintro e wb2 ⟨rfl, hbb2⟩; rw [C2.out]; have hby2 : Below wi.heap.size wi wb2 := HXa2.out.trans (hbb2.mono HXa2.out.size))))
                all_goals
                  have eb2 := (hby2.cell (p := ⟨g, k, none⟩) hgi).trans HE.out
                  have HY2 := Lib.hid hby2
                  have hz2 := hby2.size
                  have HOB := Lib.hid (own_below HO.out HY2.out)
                  clear hby2 hbx2 hoa2 hba2 hbb2 ea2 eb1
                  go_wp2_with (at_builtin; refine wpList_append_any _ rfl _ _ _ rfl wo.heap.size 37 i0 _ 1 24 Tryz.underlying72 hi hy0 hy1 hy2 rfl (by decide) _ _ _ rfl (HOB.out.alloc _) (wb2.heap.size + 1) _ 1 1 [_] rfl lit_reads (by intro u hu; simp at hu; subst hu; rfl) (by unfold maxLen; omega) (by omega) (by simp; omega) ?_)
                  intro v9 w9 hown9 hg9 hat9
                  have HO9 : Hid (w9.ownsRow wo.heap.size 37 1 v9 ((M.take (k + 1)).filter (isMid n)).length (xs ++ [.slice As (lst n p).length cs])) := by unfold Hid; rw [HN1.out, List.length_append]; exact hown9
                  have HB9 := Lib.hid (((HBI.out.trans (HY2.out.mono HBI.out.size)).alloc (by omega) _).grown hg9 (by simp; omega) (fun kk hkk => (HOB.out.lt kk hkk).1))
                  clear hown9 hg9 hat9 eb2
                  go_wp2
                  go_roundg (m - (k + 1))
                  case measure => omega
                  case rel => exact ⟨k + 1, _, rfl, by omega, by go_num, by rw [HN2.out], HO9.out, HB9.out⟩
            · have HN1 := Lib.hid (show (M.take (k + 1)).filter (isMid n) = (M.take k).filter (isMid n) by rw [HTK.out, List.filter_append, show [p].filter (isMid n) = [] from List.filter_eq_nil_iff.2 (by intro q hq; simp at hq; subst hq; unfold isMid; rw [c2]; simp)]; simp)
              have HN2 := Lib.hid (show (M.take (k + 1)).filter (isTw n) = (M.take k).filter (isTw n) ++ [p] by rw [HTK.out, List.filter_append, show [p].filter (isTw n) = [p] from List.filter_eq_self.2 (by intro q hq; simp at hq; subst hq; unfold isTw; rw [c1, c2]; rfl)])
              have C1 := Lib.hid c1
              have C2 := Lib.hid c2
              clear c1 c2
              generalize hfl : (M.take k).filter (isMid n) = fl at *
              generalize htl : (M.take k).filter (isTw n) = tl at *
              clear hfl htl
              go_wp2
              go_region_with ((first | (go_at_call 47; refine (l04Identity_any n hn _).mono ?_; rintro e wa1 ⟨va1, rfl, hoa1, hba1⟩; obtain ⟨Aa1, ca1, rfl, -⟩ := hoa1.cells; have hbx1 : Below wi.heap.size wi wa1 := (Below.refl wi.heap.size wi).trans (((Below.refl wi.heap.size wi).drew.trans hba1).mono (Below.refl wi.heap.size wi).size); have ea1 : wa1.cell? ⟨g, k, none⟩ = some (.slice As (lst n p).length cs) := (hbx1.cell (p := ⟨g, k, none⟩) hgi).trans HE.out; have HOa1 := Lib.hid (RdI.of_own hoa1); have HXa1 := Lib.hid hbx1) | (go_at_call 59; refine (l04Is_any _ _ (lst n p) (lst n Pm.one) _ (HRD1.out _ HXa1.out) HOa1.out).mono ?_; rintro e wb1 ⟨rfl, hbb1⟩; rw [C1.out]; have hby1 : Below wi.heap.size wi wb1 := HXa1.out.trans (hbb1.mono HXa1.out.size))))
              all_goals
                have eb1 := (hby1.cell (p := ⟨g, k, none⟩) hgi).trans HE.out
                have HY1 := Lib.hid hby1
                clear hby1 hbx1 hoa1 hba1 hbb1 ea1
                go_wp2
                go_region_with ((first | (go_at_call 49; refine (l04Half_any n hn _).mono ?_; rintro e wa2 ⟨va2, rfl, hoa2, hba2⟩; obtain ⟨Aa2, ca2, rfl, -⟩ := hoa2.cells; have hbx2 : Below wi.heap.size wi wa2 := HY1.out.trans (((Below.refl wb1.heap.size wb1).drew.trans hba2).mono HY1.out.size); have ea2 : wa2.cell? ⟨g, k, none⟩ = some (.slice As (lst n p).length cs) := (hbx2.cell (p := ⟨g, k, none⟩) hgi).trans HE.out; have HOa2 := Lib.hid (RdI.of_own hoa2); have HXa2 := Lib.hid hbx2) | (go_at_call 59; refine (l04Is_any _ _ (lst n p) (lst n (Pm.half n)) _ (HRD1.out _ HXa2.out) HOa2.out).mono ?_; rintro e wb2 ⟨rfl, hbb2⟩; rw [C2.out]; have hby2 : Below wi.heap.size wi wb2 := HXa2.out.trans (hbb2.mono HXa2.out.size))))
                all_goals
                  have HY2 := Lib.hid hby2
                  clear hby2 hbx2 hoa2 hba2 hbb2 ea2 eb1
                  go_wp2
                  go_roundg (m - (k + 1))
                  case measure => omega
                  case rel => exact ⟨k + 1, xs, rfl, by omega, by go_num, by rw [HN2.out, List.length_append]; go_num, by rw [HN1.out]; exact own_below HO.out HY2.out, HBI.out.trans (HY2.out.mono HBI.out.size)⟩
          · have HN1 := Lib.hid (show (M.take (k + 1)).filter (isMid n) = (M.take k).filter (isMid n) by rw [HTK.out, List.filter_append, show [p].filter (isMid n) = [] from List.filter_eq_nil_iff.2 (by intro q hq; simp at hq; subst hq; unfold isMid; rw [c1]; simp)]; simp)
            have HN2 := Lib.hid (show (M.take (k + 1)).filter (isTw n) = (M.take k).filter (isTw n) by rw [HTK.out, List.filter_append, show [p].filter (isTw n) = [] from List.filter_eq_nil_iff.2 (by intro q hq; simp at hq; subst hq; unfold isTw; rw [c1]; simp)]; simp)
            have C1 := Lib.hid c1
            clear c1
            generalize hfl : (M.take k).filter (isMid n) = fl at *
            generalize htl : (M.take k).filter (isTw n) = tl at *
            clear hfl htl
            go_wp2
            go_region_with ((first | (go_at_call 47; refine (l04Identity_any n hn _).mono ?_; rintro e wa1 ⟨va1, rfl, hoa1, hba1⟩; obtain ⟨Aa1, ca1, rfl, -⟩ := hoa1.cells; have hbx1 : Below wi.heap.size wi wa1 := (Below.refl wi.heap.size wi).trans (((Below.refl wi.heap.size wi).drew.trans hba1).mono (Below.refl wi.heap.size wi).size); have ea1 : wa1.cell? ⟨g, k, none⟩ = some (.slice As (lst n p).length cs) := (hbx1.cell (p := ⟨g, k, none⟩) hgi).trans HE.out; have HOa1 := Lib.hid (RdI.of_own hoa1); have HXa1 := Lib.hid hbx1) | (go_at_call 59; refine (l04Is_any _ _ (lst n p) (lst n Pm.one) _ (HRD1.out _ HXa1.out) HOa1.out).mono ?_; rintro e wb1 ⟨rfl, hbb1⟩; rw [C1.out]; have hby1 : Below wi.heap.size wi wb1 := HXa1.out.trans (hbb1.mono HXa1.out.size))))
            all_goals
              have HY1 := Lib.hid hby1
              clear hby1 hbx1 hoa1 hba1 hbb1 ea1
              go_wp2
              go_roundg (m - (k + 1))
              case measure => omega
              case rel => exact ⟨k + 1, xs, rfl, by omega, by go_num, by rw [HN2.out], by rw [HN1.out]; exact own_below HO.out HY1.out, HBI.out.trans (HY1.out.mono HBI.out.size)⟩
        · have HRN := Lib.hid (show Nrm n L (M.filter (isTw n)).length (M.filter (isMid n)) by
            obtain ⟨a, F, b, hMe, hG⟩ := shape_ex M (hL.rch HR.out) HSE2.out
            have hF : AllOn n F := by have h := hL.rch HR.out; rw [hMe] at h; exact h.right.left
            obtain ⟨h1, h2⟩ := mid_nfm (b := b) (a := a) hn2 hG hF
            rw [hMe, h1, h2]
            exact ⟨hG, b, by rw [← hMe]; exact HR.out, by rw [← hMe]; exact HSE2.out⟩)
          obtain ⟨Ao, co, rfl, -⟩ := (OwC.of_own HO.out).cells
          go_wp2
          obtain rfl : k = m := by omega
          have hMt : M.take k = M := List.take_of_length_le (by rw [HML.out]; exact Nat.le_refl _)
          go_ret2
          exact ⟨_, _, Ao, co, by first | rfl | (rw [hMt]; rfl), HRN.out, HB.out.trans (HBI.out.mono HB.out.size)⟩
    · have HGK2 := Lib.hid (show gk = mes n M + 1 from HGK.out)
      have hLM := Lib.hid (hL.rch HR.out)
      obtain ⟨gko, rfl⟩ : ∃ x : Nat, x = gk := ⟨_, rfl⟩
      obtain ⟨wo, rfl⟩ : ∃ x : World, x = wr := ⟨_, rfl⟩
      go_wp2
      go_loopg [7, 8] m (fun gj ch i wi => ∃ (cc : Bool) (M1 : List Pm) (g1 : List Value) (j : Nat), ch = .bool cc ∧ i = .int .i64 j ∧ j ≤ m ∧ Hid (M1.length = m) ∧ Hid (HRow wi w.heap.size (.slice A1 m c1) (lstL n M1) g1) ∧ Hid (Rch n M M1) ∧ Hid (cc = false → M1 = M ∧ Pref n M j) ∧ Hid (cc = true → mes n M1 < mes n M) ∧ Hid (gj = m - j) ∧ Below w.heap.size w wi)
      case atStart => exact ⟨false, M, gs, 0, rfl, rfl, Nat.zero_le _, HML.out, HH.out, .refl, fun _ => ⟨rfl, fun i p q hi => absurd hi (by omega)⟩, fun h => (by cases h), rfl, HB.out⟩
      case round =>
        obtain ⟨cc, M1, g1, j, rfl, rfl, hj, HM1, HH1, HR1, HCF, HCT, HGJ, hb1⟩ := hrel
        have HB1 := Lib.hid hb1
        have hzr := hb1.size
        clear hb1
        by_cases hlt : j + 1 < m
        · obtain ⟨p, hp⟩ : ∃ p, M1[j]? = some p := ⟨_, List.getElem?_eq_getElem (by rw [HM1.out]; omega)⟩
          obtain ⟨q, hq⟩ : ∃ q, M1[j + 1]? = some q := ⟨_, List.getElem?_eq_getElem (by rw [HM1.out]; omega)⟩
          have hgl : g1.length = m := by rw [HH1.out.hlen, List.length_map, HM1.out]
          obtain ⟨sj, hsj⟩ : ∃ u, g1[j]? = some u := ⟨_, List.getElem?_eq_getElem (by omega)⟩
          obtain ⟨sk, hsk⟩ : ∃ u, g1[j + 1]? = some u := ⟨_, List.getElem?_eq_getElem (by omega)⟩
          obtain ⟨g, cap, he, hglo, hghi⟩ := HH1.out.shape (by rw [List.length_map, HM1.out]; omega)
          injection he with he he2 he3
          clear he2 he3
          subst he
          have hrj := HH1.out.rd j sj (lst n p) hsj (by simp [lstL, hp])
          have hrk := HH1.out.rd (j + 1) sk (lst n q) hsk (by simp [lstL, hq])
          obtain ⟨Aj, cj, rfl⟩ := hrj.len
          obtain ⟨Ak, ck, rfl⟩ := hrk.len
          have hon := hLM.out.rch HR1.out
          have HPO := Lib.hid (hon p (List.mem_of_getElem? hp))
          have hrj1 := hrj.rd (B := wr.heap.size) fun b hb => hb.1
          have hrk1 := hrk.rd (B := wr.heap.size) fun b hb => hb.1
          have HQ := fun X => Lib.hid (l04Extra_any n (by omega) hn p q HPO.out _ _ (wgrow wr X) (hrj1.up (below_wgrow wr X) (below_wgrow wr X).size) (hrk1.up (below_wgrow wr X) (below_wgrow wr X).size))
          have e0 := fun X => wgrow_cell (x := X) (HH1.out.cell hsj).1
          have e1 := fun X => wgrow_cell (x := X) (HH1.out.cell hsk).1
          have HP := Lib.hid hp
          have HQQ := Lib.hid hq
          have hlt1 : (j : Int) + 1 < (m : Int) := by omega
          obtain ⟨gjo, rfl⟩ : ∃ x : Nat, x = gk := ⟨_, rfl⟩
          clear hp hq hsj hsk hrj hrk hrj1 hrk1 hgl hon
          go_wp2
          refine wp_region_grow (by kernel_rfl) (by kernel_rfl) ?_
          repeat (go_big_quiet_step ((go_at_call 57; exact calls_grow (HQ _).out)))
          refine wpQuiet_nil ?_
          intro w2 hb2
          have HH2 := Lib.hid (HH1.out.below hb2)
          have HB2 := Lib.hid (HB1.out.trans (hb2.mono HB1.out.size))
          clear hb2 e0 e1 HQ
          go_wp2
          go_loopg [7, 9] (mes n M1) (fun gx ch kk wi => ∃ (cx : Bool) (M2 : List Pm) (g2 : List Value) (p2 q2 : Pm), ch = .bool cx ∧ kk = .int .i64 (exP n p2 q2) ∧ Hid (M2[j]? = some p2) ∧ Hid (M2[j + 1]? = some q2) ∧ Hid (M2.length = m) ∧ Hid (HRow wi w.heap.size (.slice (some ⟨g, 0, none⟩) m c1) (lstL n M2) g2) ∧ Hid (Rch n M M2) ∧ Hid (cx = false → M2 = M ∧ Pref n M j) ∧ Hid (cx = true → mes n M2 < mes n M) ∧ Hid (gx = mes n M2) ∧ Below w.heap.size w wi)
          case atStart => exact ⟨cc, M1, g1, p, q, rfl, rfl, HP.out, HQQ.out, HM1.out, HH2.out, HR1.out, HCF.out, HCT.out, rfl, HB2.out⟩
          case round =>
            obtain ⟨cx, M2, g2, p2, q2, rfl, rfl, HP2, HQ2, HM2, HH3, HR2, HCF2, HCT2, HGX, hb3⟩ := hrel
            have HB3 := Lib.hid hb3
            have hz3 := hb3.size
            clear hb3
            by_cases hz : exP n p2 q2 = 0
            · have HZ := Lib.hid (exP_zero hz)
              rw [hz]
              clear hz
              go_wp2
              go_roundg (m - (j + 1))
              case measure => rw [HGJ.out]; omega
              case rel => exact ⟨cx, M2, g2, j + 1, rfl, by go_num, by omega, HM2.out, HH3.out, HR2.out, fun h => by obtain ⟨h1, h2⟩ := HCF2.out h; subst h1; exact ⟨rfl, h2.next HP2.out HQ2.out HZ.out⟩, HCT2.out, rfl, HB3.out⟩
            · obtain ⟨k, hk, hk1, hkn, hks, hkf⟩ := exP_pos hz
              rw [hk]
              have hk0 : ((k : Int) != 0) = true := by rw [bne_iff_ne]; omega
              have hon2 := hLM.out.rch HR2.out
              have HPO2 := Lib.hid (hon2 p2 (List.mem_of_getElem? HP2.out))
              have HQO2 := Lib.hid (hon2 q2 (List.mem_of_getElem? HQ2.out))
              have HMV := Lib.hid (mv_at hk1 hkn hks hkf HP2.out HQ2.out)
              have HMS := Lib.hid (mes_mv hon2 HMV.out)
              have hgl : g2.length = m := by rw [HH3.out.hlen, List.length_map, HM2.out]
              obtain ⟨sj, hsj⟩ : ∃ u, g2[j]? = some u := ⟨_, List.getElem?_eq_getElem (by omega)⟩
              obtain ⟨sk, hsk⟩ : ∃ u, g2[j + 1]? = some u := ⟨_, List.getElem?_eq_getElem (by omega)⟩
              have hrj := HH3.out.rd j sj (lst n p2) hsj (by simp [lstL, HP2.out])
              have hrk := HH3.out.rd (j + 1) sk (lst n q2) hsk (by simp [lstL, HQ2.out])
              obtain ⟨Aj, cj, rfl⟩ := hrj.len
              obtain ⟨Ak, ck, rfl⟩ := hrk.len
              have HGL := Lib.hid hgl
              have HSJ := Lib.hid hsj
              have HSK := Lib.hid hsk
              have hrj1 := hrj.rd (B := wr.heap.size) fun b hb => hb.1
              have HQ3 := Lib.hid (l04Behind_any n k hn hk1 hkn p2 _ wr hrj1)
              have hghr : g < wr.heap.size := (HH3.out.own.lt g rfl).2
              obtain ⟨gxo, rfl⟩ : ∃ x : Nat, x = gk := ⟨_, rfl⟩
              have e0 := (HH3.out.cell hsj).1
              clear hk hks hkf hz hon2 hgl hsj hsk hrj hrk hrj1
              go_wp2_with fail
              refine HQ3.out.mono ?_
              rintro e w3 ⟨v3, rfl, ho3, hb4⟩
              obtain ⟨A3, c3, rfl, -⟩ := ho3.cells
              have hz4 := hb4.size
              have HH4 := Lib.hid (HH3.out.below hb4)
              have HB4 := Lib.hid (HB3.out.trans (hb4.mono HB3.out.size))
              have hf3 : HOk w3 (some g) (.slice A3 (lst n (p2.behind k hk1)).length c3) (lst n (p2.behind k hk1)) := ho3.rdA.keep (fun b hb => ⟨hb.2, fun e => by injection e with e; omega⟩) (fun _ _ _ => rfl)
              have HH5 := Lib.hid (HH4.out.set (i := j) (by rw [List.length_map, HM2.out]; omega) hf3)
              have HB5 := Lib.hid (HB4.out.setCell (p := ⟨g, j, none⟩) hglo (.slice A3 (lst n (p2.behind k hk1)).length c3))
              rw [lstL_set] at HH5
              obtain ⟨f0, f1⟩ := HH4.out.cell HSJ.out
              have f2 := (HH4.out.cell HSK.out).1
              have hrk := HH5.out.rd (j + 1) _ (lst n q2) (by rw [List.getElem?_set_ne (by omega)]; exact HSK.out) (by simp [lstL, HQ2.out])
              have hrk1 := hrk.rd (B := (w3.setCell ⟨g, j, none⟩ (.slice A3 (lst n (p2.behind k hk1)).length c3)).heap.size) fun b hb => hb.1
              have HQ5 := Lib.hid (l04Before_any n k hn hk1 hkn q2 _ (w3.setCell ⟨g, j, none⟩ (.slice A3 (lst n (p2.behind k hk1)).length c3)) hrk1)
              have hne : ¬ j = j + 1 := by omega
              clear hb4 ho3 hf3 hrk hrk1 e0
              go_wp2_with fail
              refine HQ5.out.mono ?_
              rintro e w5 ⟨v5, rfl, ho5, hb6⟩
              obtain ⟨A5, c5, rfl, -⟩ := ho5.cells
              have hz6 := hb6.size
              have hz5 : g < (w3.setCell ⟨g, j, none⟩ (.slice A3 (lst n (p2.behind k hk1)).length c3)).heap.size := by simp; omega
              have HH6 := Lib.hid (HH5.out.below hb6)
              have HB6 := Lib.hid (HB5.out.trans (hb6.mono HB5.out.size))
              have hf5 : HOk w5 (some g) (.slice A5 (lst n (q2.before k hk1)).length c5) (lst n (q2.before k hk1)) := ho5.rdA.keep (fun b hb => ⟨hb.2, fun e => by injection e with e; omega⟩) (fun _ _ _ => rfl)
              have HH7 := Lib.hid (HH6.out.set (i := j + 1) (by rw [List.length_map, List.length_set, HM2.out]; omega) hf5)
              have HB7 := Lib.hid (HB6.out.setCell (p := ⟨g, j + 1, none⟩) hglo (.slice A5 (lst n (q2.before k hk1)).length c5))
              rw [lstL_set] at HH7
              have HSJ6 := Lib.hid (show (g2.set j (.slice A3 (lst n (p2.behind k hk1)).length c3))[j]? = some _ from List.getElem?_set_self (by rw [HGL.out]; omega))
              have HSK6 := Lib.hid (show (g2.set j (.slice A3 (lst n (p2.behind k hk1)).length c3))[j + 1]? = some _ by rw [List.getElem?_set_ne (by omega)]; exact HSK.out)
              have HSJ7 := Lib.hid (show ((g2.set j (.slice A3 (lst n (p2.behind k hk1)).length c3)).set (j + 1) (.slice A5 (lst n (q2.before k hk1)).length c5))[j]? = some _ by rw [List.getElem?_set_ne (by omega)]; exact HSJ6.out)
              have HSK7 := Lib.hid (show ((g2.set j (.slice A3 (lst n (p2.behind k hk1)).length c3)).set (j + 1) (.slice A5 (lst n (q2.before k hk1)).length c5))[j + 1]? = some _ from List.getElem?_set_self (by rw [List.length_set, HGL.out]; omega))
              obtain ⟨q0, q1⟩ := HH6.out.cell HSK6.out
              have q00 := (HH6.out.cell HSJ6.out).1
              have HP7 := Lib.hid (show ((M2.set j (p2.behind k hk1)).set (j + 1) (q2.before k hk1))[j]? = some (p2.behind k hk1) by rw [List.getElem?_set_ne (by omega)]; exact List.getElem?_set_self (by rw [HM2.out]; omega))
              have HQ7 := Lib.hid (show ((M2.set j (p2.behind k hk1)).set (j + 1) (q2.before k hk1))[j + 1]? = some (q2.before k hk1) from List.getElem?_set_self (by rw [List.length_set, HM2.out]; omega))
              have hrj7 := HH7.out.rd j _ (lst n (p2.behind k hk1)) HSJ7.out (by unfold lstL; rw [List.getElem?_map, HP7.out]; rfl)
              have hrk7 := HH7.out.rd (j + 1) _ (lst n (q2.before k hk1)) HSK7.out (by unfold lstL; rw [List.getElem?_map, HQ7.out]; rfl)
              have hrj8 := hrj7.rd (B := (w5.setCell ⟨g, j + 1, none⟩ (.slice A5 (lst n (q2.before k hk1)).length c5)).heap.size) fun b hb => hb.1
              have hrk8 := hrk7.rd (B := (w5.setCell ⟨g, j + 1, none⟩ (.slice A5 (lst n (q2.before k hk1)).length c5)).heap.size) fun b hb => hb.1
              have HQ := fun X => Lib.hid (l04Extra_any n (by omega) hn (p2.behind k hk1) (q2.before k hk1) (HPO2.out.behind hk1 hkn) _ _ (wgrow (w5.setCell ⟨g, j + 1, none⟩ (.slice A5 (lst n (q2.before k hk1)).length c5)) X) (hrj8.up (below_wgrow _ X) (below_wgrow _ X).size) (hrk8.up (below_wgrow _ X) (below_wgrow _ X).size))
              have e0 := fun X => wgrow_cell (x := X) (HH7.out.cell HSJ7.out).1
              have e1 := fun X => wgrow_cell (x := X) (HH7.out.cell HSK7.out).1
              clear hb6 ho5 hf5 hrj7 hrk7 hrj8 hrk8 f0 f1 f2 hne
              go_wp2
              refine wp_region_grow (by kernel_rfl) (by kernel_rfl) ?_
              repeat (go_big_quiet_step ((go_at_call 57; exact calls_grow (HQ _).out)))
              refine wpQuiet_nil ?_
              intro w8 hb8
              have HH8 := Lib.hid (HH7.out.below hb8)
              have HB8 := Lib.hid (HB7.out.trans (hb8.mono HB7.out.size))
              clear hb8 e0 e1 HQ q0 q1 q00
              go_wp2
              go_roundg (mes n ((M2.set j (p2.behind k hk1)).set (j + 1) (q2.before k hk1)))
              case measure => rw [HGX.out]; exact HMS.out
              case rel => exact ⟨true, _, _, _, _, rfl, rfl, HP7.out, HQ7.out, by unfold Hid; rw [List.length_set, List.length_set]; exact HM2.out, HH8.out, HR2.out.trans (.one HMV.out), fun h => (by cases h), fun _ => Nat.lt_of_lt_of_le HMS.out (by cases cx with | false => rw [(HCF2.out rfl).1]; exact Nat.le_refl _ | true => exact Nat.le_of_lt (HCT2.out rfl)), rfl, HB8.out⟩
        · have hlt1 : ¬ (j : Int) + 1 < (m : Int) := by omega
          go_wp2
          go_roundg (if cc then mes n M1 + 1 else 0)
          case measure =>
            rw [HGK2.out]
            cases cc with
            | false => simp
            | true => have := HCT.out rfl; simp; omega
          case rel => exact ⟨cc, M1, g1, rfl, HM1.out, HH1.out, HR.out.trans HR1.out, fun h => by obtain ⟨h1, h2⟩ := HCF.out h; subst h1; exact sett_of_pref (by rw [HM1.out]; omega) h2, rfl, HB1.out⟩

end Go.Proofs.YtccdnmafakaleaaGreatDoor

/-
  The normal form of a word, of the reference; when two words are equal as braids.
-/
namespace Go.Proofs.YtccdnmafakaleaaGreatDoor
set_option linter.unusedVariables false
set_option linter.unusedSimpArgs false
open Go.RowKit

theorem rch_len {n : Nat} {L L' : List Pm} (h : Rch n L L') : L'.length = L.length := by
  have hm : ∀ {A B : List Pm}, Mv n A B → B.length = A.length := by
    intro A B h
    induction h with
    | here k hk hn hs hf => simp
    | cons _ ih => simp [ih]
  induction h with
  | refl => rfl
  | head h _ ih => rw [ih, hm h]
theorem Nrm.len {n : Nat} {L : List Pm} {a : Nat} {F : List Pm} (h : Nrm n L a F) : a + F.length ≤ L.length := by
  obtain ⟨b, r, _⟩ := h.ex
  have := rch_len r
  unfold nfm at this
  simp at this
  omega
theorem raw_len (n : Nat) (w : List Int) : (raw n w).length = w.length := by
  have : ∀ (w : List Int) (L : List Pm), (w.foldl (fun L k => flipK n k L ++ [lets n k]) L).length = L.length + w.length := by
    intro w
    induction w with
    | nil => intro L; simp
    | cons k w ih =>
      intro L
      rw [List.foldl_cons, ih]
      have : (flipK n k L).length = L.length := by unfold flipK flipL; split <;> simp
      simp [this]
      omega
  have h := this w []
  simpa [raw] using h
theorem pow0_bd (w : List Int) : -(w.length : Int) ≤ pow0 w ∧ pow0 w ≤ 0 := by
  have : ∀ (w : List Int) (p : Int), p - w.length ≤ w.foldl stepP p ∧ w.foldl stepP p ≤ p := by
    intro w
    induction w with
    | nil => intro p; simp
    | cons k w ih =>
      intro p
      have := ih (stepP p k)
      rw [List.foldl_cons, List.length_cons]
      have h2 : p - 1 ≤ stepP p k ∧ stepP p k ≤ p := by unfold stepP; split <;> omega
      omega
  have := this w 0
  unfold pow0
  omega

theorem invW_get {l : List Int} {k : Nat} {x : Int} (h : l[l.length - 1 - k]? = some x) (hk : k < l.length) : (invW l)[k]? = some (-x) := by
  unfold invW
  rw [List.getElem?_reverse (by simpa using hk)]
  simp only [List.length_map, List.getElem?_map, h]
  rfl
theorem invW_len (l : List Int) : (invW l).length = l.length := by simp [invW]
set_option maxHeartbeats 4000000 in
set_option maxRecDepth 100000 in
theorem l03Inverse_any (v : Value) (l : List Int) (w : World) (hl : RdI w w.heap.size v l) (hlet : ∀ x ∈ l, -11 ≤ x ∧ x ≤ 11) (hlen : l.length ≤ 1048576) :
    Calls Tryz.prog 37 #[v] w (GivesL w (invW l)) := by
  obtain ⟨A, c, rfl⟩ := hl.len
  obtain ⟨i0, hi, hz0, hz1, hz2⟩ := info_parts info_int
  have HL := Lib.hid hl
  have HLT := Lib.hid hlet
  have HIN := Lib.hid (fun k x => invW_get (l := l) (k := k) (x := x))
  have hil := invW_len l
  generalize hI : invW l = I at *
  generalize hn : l.length = n at *
  have HN := Lib.hid hn
  have HIL := Lib.hid hil
  clear hl hlet hn hil hI
  go_enter Tryz.func37, Tryz.ntmps37
  go_wp2
  go_loopw [3, 4] (fun t i wr => ∃ (k : Nat), k ≤ n ∧ i = .int .i64 ((n : Int) - 1 - k) ∧ wr.ownsRow w.heap.size 2 1 t k (vI (I.take k)) ∧ Below w.heap.size w wr) (fun _ i _ => (intOf i + 1).toNat)
  case atStart => exact ⟨0, Nat.zero_le _, by simp, World.ownsRow_lit _ _ _ (Nat.le_refl _) (by unfold maxLen; omega) rfl, (Below.refl _ _).alloc (Nat.le_refl _) _⟩
  case round =>
    rename_i wr
    obtain ⟨k, hk, rfl, hown, hb⟩ := hrel
    have HB := Lib.hid hb
    have HO := Lib.hid hown
    by_cases hlt : k < n
    · obtain ⟨b, off, x, rfl, hbb, hx, hc⟩ := (HL.out.below hb).at_ (k := n - 1 - k) (by omega)
      obtain ⟨hx0, hx1⟩ := HLT.out x (List.mem_of_getElem? hx)
      have HT := Lib.hid (take_next (HIN.out k x hx hlt))
      have hb0 : 0 ≤ (n : Int) - 1 - k := by omega
      have hb1 : (n : Int) - 1 - k < n := by omega
      clear hb hown hx
      go_wp2_with (at_builtin; refine wpList_append_own _ rfl _ _ 37 rfl w.heap.size 2 i0 _ 1 8 Tryz.underlying37 hi hz0 hz1 hz2 rfl (by decide) _ _ _ rfl (HO.out.alloc _) ⟨wr.heap.size, 0, none⟩ 1 1 [.int .i64 (-x)] rfl rfl ?c1 ?c2 ?c3 ?c4 ?c5 ?_)
      case c1 => exact new_cells' _ _ (by simp)
      case c2 => intro u hu; simp at hu; subst hu; rfl
      case c3 => unfold maxLen; omega
      case c4 => omega
      case c5 => have := HB.out.size; simp; omega
      intro v' w2 hown2 hgrow2 _
      have HB1 := Lib.hid (below_append' (HB.out.alloc HB.out.size _) (by have := HB.out.size; simp; omega) HO.out (by simp) hgrow2)
      have HO1 : Hid (w2.ownsRow w.heap.size 2 1 v' (k + 1) (vI (I.take (k + 1)))) := by unfold Hid; rw [HT.out, vI_append]; exact hown2
      clear hgrow2 hown2 HB HO
      go_wp2
      exact ⟨⟨k + 1, by omega, by rw [show (n : Int) - 1 - ((k + 1 : Nat) : Int) = (n : Int) - 1 - k - 1 by omega], HO1.out, HB1.out⟩, by simp [intOf]; omega⟩
    · have hb0 : ¬ 0 ≤ (n : Int) - 1 - k := by omega
      clear hb hown
      go_wp2
      go_ret
      obtain rfl : k = n := by omega
      refine ⟨_, rfl, ?_, HB.out⟩
      have h := OwC.of_own HO.out
      rw [List.take_of_length_le (by rw [HIL.out]; omega)] at h
      rw [HIL.out]
      exact h

theorem LetsN.bd {n : Nat} {l : List Int} (h : LetsN n l) (hn : n ≤ 12) : ∀ x ∈ l, -11 ≤ x ∧ x ≤ 11 := fun x hx => by
  obtain ⟨h1, h2⟩ := h x hx
  omega

set_option maxHeartbeats 2000000 in
set_option maxRecDepth 100000 in
/-- No factors. -/
theorem l04Settle_nil (n : Int) (A : Option Addr) (c : Nat) (w : World) :
    Calls Tryz.prog 50 #[.int .i64 n, .slice A 0 c] w fun e w' => ∃ (A : Option Addr) (c : Nat), e = .returned (.tuple #[.int .i64 0, .slice A 0 c]) ∧ Below w.heap.size w w' := by
  obtain ⟨i0, hi, hy0, hy1, hy2⟩ := info_parts info_hd
  go_enter Tryz.func50, Tryz.ntmps50
  go_wp2_with (at_builtin; refine wpList_append_any _ rfl _ _ _ rfl w.heap.size 37 i0 _ 1 24 Tryz.underlying72 hi hy0 hy1 hy2 rfl (by decide) _ 0 [] rfl (World.ownsRow_lit _ _ _ (Nat.le_refl _) (by unfold maxLen; omega) rfl) w.heap.size A 0 c [] rfl Reads.none_ (by simp) (by unfold maxLen; omega) (by omega) (by simp) ?_)
  intro v1 w1 hown hg hat
  have HB0 := Lib.hid (((Below.refl w.heap.size w).alloc (Nat.le_refl _) _).grown hg (by simp) (fun kk hkk => by simp [Value.ownBlock] at hkk; omega))
  obtain ⟨A1, c1, rfl⟩ : ∃ A1 c1, v1 = .slice A1 0 c1 := by
    have ho : w1.ownsRow w.heap.size 37 1 v1 0 [] := by simpa using hown
    obtain ⟨A1, c1, e, _⟩ := (OwC.of_own ho).cells
    exact ⟨A1, c1, e⟩
  clear hown hg hat
  go_wp2
  go_loopg [7] 2 (fun gk ch wr => ∃ (cb : Bool), ch = .bool cb ∧ Hid (gk = if cb then 2 else 1) ∧ Below w.heap.size w wr)
  case atStart => exact ⟨true, rfl, rfl, HB0.out⟩
  case round =>
    obtain ⟨cb, rfl, HG, hb⟩ := hrel
    have HB := Lib.hid hb
    clear hb
    obtain ⟨wo, rfl⟩ : ∃ x : World, x = wr := ⟨_, rfl⟩
    cases cb
    · go_wp2
      go_loopg [10, 11, 12] 0 (fun gk t o i wi => t = .int .i64 0 ∧ (∃ A c, o = .slice A 0 c) ∧ i = .int .i64 0 ∧ Below w.heap.size w wi)
      case atStart => exact ⟨rfl, ⟨_, _, rfl⟩, rfl, HB.out.alloc HB.out.size _⟩
      case round =>
        obtain ⟨rfl, ⟨Ao, co, rfl⟩, rfl, hb⟩ := hrel
        have HBI := Lib.hid hb
        clear hb
        go_wp2
        go_ret2
        exact ⟨Ao, co, rfl, HBI.out⟩
    · obtain ⟨gko, rfl⟩ : ∃ x : Nat, x = gk := ⟨_, rfl⟩
      go_wp2
      go_loopg [7, 8] 0 (fun gk ch i wi => ch = .bool false ∧ i = .int .i64 0 ∧ Below w.heap.size w wi)
      case atStart => exact ⟨rfl, rfl, HB.out⟩
      case round =>
        obtain ⟨rfl, rfl, hb⟩ := hrel
        have HBI := Lib.hid hb
        clear hb
        go_wp2
        go_roundg 1
        case measure => rw [HG.out]; simp
        case rel => exact ⟨false, rfl, rfl, HBI.out⟩

set_option maxHeartbeats 8000000 in
set_option maxRecDepth 100000 in
theorem l04Normal_any (n : Nat) (hn : n ≤ 12) (l : List Int) (hl : LetsN n l) (hlen : l.length ≤ 5000) (v : Value) (w : World) (hv : RdI w w.heap.size v l) :
    Calls Tryz.prog 35 #[.int .i64 (n : Int), v] w fun e w' => ∃ (s : St) (A : Option Addr) (c : Nat), e = .returned (.agg #[.int .i64 (n : Int), .int .i64 s.p, .slice A s.F.length c]) ∧ IsNF n l s ∧ Below w.heap.size w w' := by
  obtain ⟨A, c, rfl⟩ := hv.len
  obtain ⟨i0, hi, hy0, hy1, hy2⟩ := info_parts info_hd
  have HL := Lib.hid hv
  have HLT := Lib.hid hl
  have HBD := Lib.hid (hl.bd hn)
  generalize hm : l.length = m at *
  have HM := Lib.hid hm
  clear hv hl hm
  have HB00 := Lib.hid (show Below w.heap.size w ((w.alloc (.cells #[.int .i64 0, .int .i64 0, .slice none 0 0] 74)).alloc (.cells #[.int .i64 (n : Int), .int .i64 0, .slice none 0 0] 74)) from ((Below.refl _ _).alloc (Nat.le_refl _) _).alloc (by simp) _)
  go_enter Tryz.func35, Tryz.ntmps35
  go_wp2
  go_loopg [6, 7] m (fun gk lv i wr => ∃ (k : Nat) (hs : List Value), gk = m - k ∧ k ≤ m ∧ i = .int .i64 k ∧ Hid (HRow wr (w.heap.size + 2) lv (lstL n (raw n (l.take k))) hs) ∧ Hid (HLow wr (w.heap.size + 2) (lstL n (raw n (l.take k))) hs) ∧
    Hid (CellsAt wr w.heap.size 0 [.int .i64 0, .int .i64 0, .slice none 0 0]) ∧ Hid (CellsAt wr (w.heap.size + 1) 0 [.int .i64 (n : Int), .int .i64 (pow0 (l.take k)), .slice none 0 0]) ∧ Hid (∀ b o, w.heap.size ≤ b → b < w.heap.size + 2 → wr.frozen? ⟨b, o, none⟩ = false) ∧ Hid (w.heap.size + 2 ≤ wr.heap.size) ∧ Below w.heap.size w wr)
  case atStart =>
    refine ⟨0, [], rfl, Nat.zero_le _, rfl, ?_, HLow.nil, ?_, ?_, ?_, by unfold Hid; first | omega | (simp; done) | (simp; omega), HB00.out.alloc (by first | omega | (simp; done) | (simp; omega)) _⟩
    · refine HRow.nil ?_
      have h0 := World.ownsRow_lit (base := w.heap.size + 2) (e := 37) (size := 1) ((w.alloc (.cells #[.int .i64 0, .int .i64 0, .slice none 0 0] 74)).alloc (.cells #[.int .i64 (n : Int), .int .i64 0, .slice none 0 0] 74)) #[] 0 (by simp) (Nat.zero_le _) rfl
      simpa using h0
    · intro j u hu; rcases j with _ | _ | _ | j <;> simp at hu <;> subst hu <;> simp [go_sem]
    · intro j u hu; rcases j with _ | _ | _ | j <;> simp [pow0] at hu <;> subst hu <;> simp [go_sem]
    · intro b o h1 h2
      obtain rfl | rfl : b = w.heap.size ∨ b = w.heap.size + 1 := by omega
      all_goals simp [go_sem]
  case round =>
    obtain ⟨wo, rfl⟩ : ∃ x : World, x = wr := ⟨_, rfl⟩
    obtain ⟨k, hs, rfl, hk, rfl, HH, HLW, HC0, HC1, HFZ, HSZ, hb⟩ := hrel
    have HB := Lib.hid hb
    clear hb
    obtain ⟨Av, cv, rfl⟩ := HH.out.shape'
    have HLEN := Lib.hid (show (lstL n (raw n (l.take k))).length = k by rw [List.length_map, raw_len, List.length_take, HM.out]; omega)
    rw [HLEN.out] at HH ⊢
    by_cases hlt : k < m
    · obtain ⟨b, off, x, rfl, hbb, hx, hc⟩ := (HL.out.below HB.out).at_ hlt
      obtain ⟨hx0, hx1⟩ := HBD.out x (List.mem_of_getElem? hx)
      obtain ⟨hxn, hxk⟩ := HLT.out x (List.mem_of_getElem? hx)
      have HT := Lib.hid (take_next hx)
      have HRAW := Lib.hid (show lstL n (raw n (l.take (k + 1))) = lstL n (flipK n x (raw n (l.take k))) ++ [lst n (lets n x)] by rw [take_next hx, raw_snoc]; simp [lstL])
      have HPOW := Lib.hid (show pow0 (l.take (k + 1)) = stepP (pow0 (l.take k)) x by rw [take_next hx, pow0_snoc])
      have hpb := pow0_bd (l.take k)
      have hlt' : (l.take k).length ≤ 5000 := by rw [List.length_take]; omega
      have HXC := Lib.hid hc
      clear hx
      rcases Int.lt_trichotomy x 0 with hneg | hzero | hpos
      · obtain ⟨j, hj⟩ : ∃ j : Nat, x = -(j : Int) := ⟨(-x).toNat, by omega⟩
        subst hj
        have hj1 : 1 ≤ j := by omega
        have hjn : j < n := by omega
        have hjneg : -(j : Int) < 0 := by omega
        have hjpos : ¬ (0 : Int) < -(j : Int) := by omega
        have hja : (-(j : Int)).natAbs = j := by omega
        have HLETS := Lib.hid (show lst n (lets n (-(j : Int))) = lst n ((Pm.half n).behind j hj1) by rw [lets_neg hjneg]; simp only [hja])
        have HFK := Lib.hid (show flipK n (-(j : Int)) (raw n (l.take k)) = flipL n (raw n (l.take k)) by unfold flipK; rw [if_neg hjpos])
        have HST := Lib.hid (show stepP (pow0 (l.take k)) (-(j : Int)) = pow0 (l.take k) - 1 by unfold stepP; rw [if_neg hjpos])
        have HQA := Lib.hid (l03Abs_any (-(j : Int)) (by omega) (by omega) wo)
        rw [if_pos hjneg, Int.neg_neg] at HQA
        have HRON := Lib.hid (raw_on (l.take k) (fun y hy => HLT.out y (List.mem_of_mem_take hy)))
        have HRLEN := Lib.hid (show (raw n (l.take k)).length = k by rw [raw_len, List.length_take, HM.out]; omega)
        obtain ⟨y0, y1, y2⟩ := HC1.out.three
        have fz1 := fun o => HFZ.out (w.heap.size + 1) o (by omega) (by omega)
        have hszo := HSZ.out
        have hf := HH.out.far HLW.out (p := ⟨w.heap.size + 1, 1, none⟩) (by simp) (by simp) (.int .i64 (pow0 (l.take k) - 1))
        have HH1 := Lib.hid hf.1
        have HQF := Lib.hid (l04FlipAll_any n hn (raw n (l.take k)) HRON.out (by rw [HRLEN.out]; omega) _ _ HH1.out.read)
        have HB1 := Lib.hid (show Below w.heap.size w (wo.setCell ⟨w.heap.size + 1, 1, none⟩ (.int .i64 (pow0 (l.take k) - 1))) from HB.out.setCell (by simp) _)
        have HC11 := Lib.hid (show CellsAt (wo.setCell ⟨w.heap.size + 1, 1, none⟩ (.int .i64 (pow0 (l.take k) - 1))) (w.heap.size + 1) 0 [.int .i64 (n : Int), .int .i64 (pow0 (l.take k) - 1), .slice none 0 0] from by have h := HC1.out.set 1 (.int .i64 (pow0 (l.take k) - 1)); rw [Nat.zero_add] at h; exact h)
        have HC01 := Lib.hid (HC0.out.far (p := ⟨w.heap.size + 1, 1, none⟩) (by simp) (.int .i64 (pow0 (l.take k) - 1)))
        have HFZ1 := Lib.hid (show ∀ b o, w.heap.size ≤ b → b < w.heap.size + 2 → (wo.setCell ⟨w.heap.size + 1, 1, none⟩ (.int .i64 (pow0 (l.take k) - 1))).frozen? ⟨b, o, none⟩ = false from fun b o h1 h2 => by rw [World.frozen?_setCell]; exact HFZ.out b o h1 h2)
        clear hxn hxk hx0 hx1 hf
        generalize hP : pow0 (l.take k) = P at *
        have hpb1 := hpb.1
        have hpb2 := hpb.2
        clear hP
        go_wp2_with fail
        refine HQA.out.mono ?_
        rintro e w' ⟨rfl, rfl⟩
        go_wp2_with fail
        refine HQF.out.mono ?_
        rintro e w2 ⟨v2, hs2, rfl, hh2, hl2, hb2⟩
        obtain ⟨A2, c2, rfl⟩ := hh2.shape'
        have hsz1 : (wo.setCell ⟨w.heap.size + 1, 1, none⟩ (.int .i64 (P - 1))).heap.size = wo.heap.size := by simp
        have hz2 : wo.heap.size ≤ w2.heap.size := by have := hb2.size; rw [hsz1] at this; exact this
        have HH2 := Lib.hid (hh2.lo (lo' := w.heap.size + 2) (by rw [hsz1]; omega))
        have HL2 := Lib.hid (hl2.of (lb' := w.heap.size + 2) (by rw [hsz1]; omega))
        have HB2 := Lib.hid (hb2.mono (show w.heap.size + 2 ≤ _ by rw [hsz1]; omega))
        have HLEN2 := Lib.hid (show (lstL n (flipL n (raw n (l.take k)))).length = k by rw [List.length_map]; unfold flipL; rw [List.length_map, HRLEN.out])
        rw [HLEN2.out] at HH2 ⊢
        clear hh2 hl2 hb2 y0 y1 y2 fz1
        go_wp2_with fail
        refine (l04Half_any n hn _).mono ?_
        rintro e w3 ⟨v3, rfl, ho3, hb3⟩
        obtain ⟨A3, c3, rfl, -⟩ := ho3.cells
        have HB3 := Lib.hid hb3
        have hz3 := hb3.size
        have HQ3 := Lib.hid (l04Behind_any n j hn hj1 hjn (Pm.half n) _ w3 (RdI.of_own ho3))
        clear ho3 hb3
        go_wp2_with fail
        refine HQ3.out.mono ?_
        rintro e w5 ⟨v5, rfl, ho5, hb5⟩
        have HO5 := Lib.hid ho5.rdA
        obtain ⟨A5, c5, rfl, -⟩ := ho5.cells
        have HB5 := Lib.hid (HB3.out.trans (hb5.mono hz3))
        have hz5 := hb5.size
        clear ho5 hb5
        go_wp2_with (at_builtin; refine wpList_append_any _ rfl _ _ _ rfl (w.heap.size + 2) 37 i0 _ 1 24 Tryz.underlying72 hi hy0 hy1 hy2 rfl (by decide) _ _ _ rfl ((own_below (by have h := HH2.out.own; rw [HLEN2.out] at h; exact h) HB5.out).alloc _) (w5.heap.size + 1) _ 1 1 [_] rfl lit_reads (by intro u hu; simp at hu; subst hu; rfl) (by unfold maxLen; omega) (by omega) (by simp; omega) ?_)
        intro v6 w6 hown6 hg6 hat6
        have hk5 : HOk w5 (Value.slice A2 k c2).ownBlock (.slice A5 (lst n ((Pm.half n).behind j hj1)).length c5) (lst n ((Pm.half n).behind j hj1)) := HO5.out.keep (fun b hb => ⟨hb.2, by intro e; have := (HH2.out.own.lt b e).2; omega⟩) (fun _ _ _ => rfl)
        have HH6 := Lib.hid (HRow.push HH2.out HB5.out hk5 (by rw [HLEN2.out]; exact hown6) hg6 (by simpa using hat6))
        have HL6 := Lib.hid (HLow.push HL2.out HH2.out HB5.out hk5 (HO5.out.keep (fun b hb => (by omega : w.heap.size + 2 ≤ b)) (fun _ _ _ => rfl)) hg6)
        rw [← HLETS.out, ← HFK.out, ← HRAW.out] at HH6 HL6
        have HB6 := Lib.hid (((HB2.out.trans (HB5.out.mono (by omega))) |>.alloc (by omega) _).grown hg6 (by simp; omega) (fun kk hkk => (HH2.out.own.lt kk hkk).1))
        have hz6 : wo.heap.size ≤ w6.heap.size := by have := HB6.out.size; rw [hsz1] at this; exact this
        have HFZ6 := Lib.hid (show ∀ b o, w.heap.size ≤ b → b < w.heap.size + 2 → w6.frozen? ⟨b, o, none⟩ = false from fun b o h1 h2 => (HB6.out.frozen (p := ⟨b, o, none⟩) h2).trans (HFZ1.out b o h1 h2))
        clear hown6 hg6 hat6 hk5 hsz1
        go_wp2
        go_roundg (m - (k + 1))
        case measure => omega
        case rel => exact ⟨k + 1, _, rfl, by omega, by go_num, HH6.out, HL6.out, HC01.out.below HB6.out (by omega), by rw [HPOW.out, HST.out]; exact HC11.out.below HB6.out (by omega), HFZ6.out, by unfold Hid; omega, HB1.out.trans (HB6.out.mono (by omega))⟩
      · exact absurd hzero hxn
      · obtain ⟨j, hj⟩ : ∃ j : Nat, x = (j : Int) := ⟨x.toNat, by omega⟩
        subst hj
        have hj1 : 1 ≤ j := by omega
        have hjn : j < n := by omega
        have hjneg : ¬ (j : Int) < 0 := by omega
        have hjpos : (0 : Int) < (j : Int) := by omega
        have HLETS := Lib.hid (show lst n (lets n (j : Int)) = lst n (Pm.one.behind j hj1) by rw [lets_pos hjpos]; rfl)
        have HFK := Lib.hid (show flipK n (j : Int) (raw n (l.take k)) = raw n (l.take k) by unfold flipK; rw [if_pos hjpos])
        have HST := Lib.hid (show stepP (pow0 (l.take k)) (j : Int) = pow0 (l.take k) by unfold stepP; rw [if_pos hjpos])
        have HQA := Lib.hid (l03Abs_any (j : Int) (by omega) (by omega) wo)
        rw [if_neg hjneg] at HQA
        clear hxn hxk hx0 hx1
        go_wp2_with fail
        refine HQA.out.mono ?_
        rintro e w' ⟨rfl, rfl⟩
        go_wp2_with fail
        refine (l04Identity_any n hn _).mono ?_
        rintro e w2 ⟨v2, rfl, ho2, hb2⟩
        obtain ⟨A2, c2, rfl, -⟩ := ho2.cells
        have HB2 := Lib.hid hb2
        have hz2 := hb2.size
        have HQ2 := Lib.hid (l04Behind_any n j hn hj1 hjn Pm.one _ w2 (RdI.of_own ho2))
        clear ho2 hb2
        go_wp2_with fail
        refine HQ2.out.mono ?_
        rintro e w3 ⟨v3, rfl, ho3, hb3⟩
        have HO3 := Lib.hid ho3.rdA
        obtain ⟨A3, c3, rfl, -⟩ := ho3.cells
        have HB3 := Lib.hid (HB2.out.trans (hb3.mono hz2))
        have hz3 := hb3.size
        have hszo := HSZ.out
        clear ho3 hb3
        go_wp2_with (at_builtin; refine wpList_append_any _ rfl _ _ _ rfl (w.heap.size + 2) 37 i0 _ 1 24 Tryz.underlying72 hi hy0 hy1 hy2 rfl (by decide) _ _ _ rfl ((own_below (by have h := HH.out.own; rw [HLEN.out] at h; exact h) HB3.out).alloc _) (w3.heap.size + 1) _ 1 1 [_] rfl lit_reads (by intro u hu; simp at hu; subst hu; rfl) (by unfold maxLen; omega) (by omega) (by simp; omega) ?_)
        intro v4 w4 hown4 hg4 hat4
        have hk3 : HOk w3 (Value.slice Av k cv).ownBlock (.slice A3 (lst n (Pm.one.behind j hj1)).length c3) (lst n (Pm.one.behind j hj1)) := HO3.out.keep (fun b hb => ⟨hb.2, by intro e; have := (HH.out.own.lt b e).2; omega⟩) (fun _ _ _ => rfl)
        have HH4 := Lib.hid (HRow.push HH.out HB3.out hk3 (by rw [HLEN.out]; exact hown4) hg4 (by simpa using hat4))
        have HL4 := Lib.hid (HLow.push HLW.out HH.out HB3.out hk3 (HO3.out.keep (fun b hb => (by omega : w.heap.size + 2 ≤ b)) (fun _ _ _ => rfl)) hg4)
        rw [← HLETS.out, ← HFK.out, ← HRAW.out] at HH4 HL4
        have HB4 := Lib.hid (((Below.refl (w.heap.size + 2) wo).trans (HB3.out.mono hszo) |>.alloc (by omega) _).grown hg4 (by simp; omega) (fun kk hkk => (HH.out.own.lt kk hkk).1))
        have hz4 := HB4.out.size
        have HFZ4 := Lib.hid (show ∀ b o, w.heap.size ≤ b → b < w.heap.size + 2 → w4.frozen? ⟨b, o, none⟩ = false from fun b o h1 h2 => (HB4.out.frozen (p := ⟨b, o, none⟩) h2).trans (HFZ.out b o h1 h2))
        clear hown4 hg4 hat4 hk3
        go_wp2
        go_roundg (m - (k + 1))
        case measure => omega
        case rel => exact ⟨k + 1, _, rfl, by omega, by go_num, HH4.out, HL4.out, HC0.out.below HB4.out (by omega), by rw [HPOW.out, HST.out]; exact HC1.out.below HB4.out (by omega), HFZ4.out, Nat.le_trans hszo hz4, HB.out.trans (HB4.out.mono (by omega))⟩
    · obtain rfl : k = m := by omega
      have HLT2 := Lib.hid (show l.take k = l from List.take_of_length_le (by rw [HM.out]; omega))
      rw [HLT2.out] at HH HLW HC1
      have hpb := pow0_bd l
      rw [HM.out] at hpb
      have HRON := Lib.hid (raw_on l HLT.out)
      have HRLEN := Lib.hid (show (raw n l).length = k by rw [raw_len, HM.out])
      have hszo := HSZ.out
      obtain ⟨y0, y1, y2⟩ := HC1.out.three
      have fz1 := fun o => HFZ.out (w.heap.size + 1) o (by omega) (by omega)
      have fz0 := fun o => HFZ.out w.heap.size o (by omega) (by omega)
      have HSET : Hid (Calls Tryz.prog 50 #[.int .i64 (n : Int), .slice Av k cv] wo fun e w' => ∃ (a : Nat) (F : List Pm) (A : Option Addr) (c : Nat), e = .returned (.tuple #[.int .i64 (a : Int), .slice A F.length c]) ∧ Nrm n (raw n l) a F ∧ Below wo.heap.size wo w') := by
        unfold Hid
        by_cases hn2 : 2 ≤ n
        · exact l04Settle_any n hn2 hn (raw n l) HRON.out (by rw [HRLEN.out]; omega) _ wo HH.out.read
        · have hl0 : l = [] := by
            rcases l with _ | ⟨x, t⟩
            · rfl
            · have h := HLT.out x (by simp)
              have := h.1
              have := h.2
              omega
          have hk0 : k = 0 := by rw [← HM.out, hl0]; rfl
          subst hk0
          refine (l04Settle_nil (n : Int) Av cv wo).mono ?_
          rintro e w' ⟨A, c, rfl, hb⟩
          obtain ⟨a, F, h⟩ := Nrm.exists_ HRON.out
          have hle := h.len
          rw [HRLEN.out] at hle
          have ha : a = 0 := by omega
          have hF : F = [] := List.eq_nil_of_length_eq_zero (by omega)
          exact ⟨a, F, A, c, by rw [ha, hF]; rfl, h, hb⟩
      go_wp2_with fail
      refine HSET.out.mono ?_
      rintro e w1 ⟨a, F, Af, cf, rfl, hnrm, hb1⟩
      have HN := Lib.hid hnrm
      have hal := hnrm.len
      rw [HRLEN.out] at hal
      have HB1 := Lib.hid (HB.out.trans (hb1.mono HB.out.size))
      have HC11 := HC1.out.below hb1 (by omega)
      have HC01 := HC0.out.below hb1 (by omega)
      obtain ⟨y0, y1, y2⟩ := HC11.three
      obtain ⟨z0, z1, z2⟩ := HC01.three
      have fz1 : ∀ o, w1.frozen? ⟨w.heap.size + 1, o, none⟩ = false := fun o => ((bcell hb1).2 _ o (by omega)).trans (HFZ.out (w.heap.size + 1) o (by omega) (by omega))
      have fz0 : ∀ o, w1.frozen? ⟨w.heap.size, o, none⟩ = false := fun o => ((bcell hb1).2 _ o (by omega)).trans (HFZ.out w.heap.size o (by omega) (by omega))
      have HRES := Lib.hid (show IsNF n l ⟨pow0 l + a, F⟩ from ⟨a, hnrm, rfl⟩)
      generalize hP : pow0 l = P at *
      have hp1 := hpb.1
      have hp2 := hpb.2
      clear hnrm hb1 HC11 HC01 hP
      go_wp2
      refine bodyPost_ret (v := .agg #[.int .i64 (n : Int), .int .i64 (P + a), .slice Af F.length cf]) (by simp [results, Tryz.results35, go_sem, y0, y1, y2, z0, z1, z2, World.cell?_setCell_other]) rfl ⟨_, Af, cf, rfl, HRES.out, ?_⟩
      exact ((((HB1.out.setCell (by simp) _).setCell (by simp) _).setCell (by simp) _).setCell (by simp) _).setCell (by simp) _

end Go.Proofs.YtccdnmafakaleaaGreatDoor

/-
  The normal form of a word, and words that are equal as braids: plain.
-/
namespace Go.Proofs.YtccdnmafakaleaaGreatDoor
set_option linter.unusedVariables false
set_option linter.unusedSimpArgs false

open Classical in
/-- The normal form of a word. -/
noncomputable def nfw (n : Nat) (w : List Int) : St := if h : ∃ s, IsNF n w s then Classical.choose h else ⟨0, []⟩
theorem isNF_ex {n : Nat} {w : List Int} (h : LetsN n w) : ∃ s, IsNF n w s := by
  obtain ⟨a, F, hN⟩ := Nrm.exists_ (raw_on w h)
  exact ⟨⟨pow0 w + a, F⟩, a, hN, rfl⟩
theorem nfw_spec {n : Nat} {w : List Int} (h : LetsN n w) : IsNF n w (nfw n w) := by
  unfold nfw
  rw [dif_pos (isNF_ex h)]
  exact Classical.choose_spec (isNF_ex h)
theorem nfw_eq {n : Nat} {w : List Int} {s : St} (h : LetsN n w) (hs : IsNF n w s) : s = nfw n w := hs.uniq h (nfw_spec h)
theorem nfw_nil (n : Nat) : nfw n [] = ⟨0, []⟩ := (nfw_eq (fun k hk => by simp at hk) (isNF_nil n)).symm
open Classical in
/-- Are two words equal as braids? -/
noncomputable def eqW (n : Nat) (a b : List Int) : Bool := decide (nfw n a = nfw n b)
open Classical in
theorem eqW_iff {n : Nat} {a b : List Int} : eqW n a b = true ↔ nfw n a = nfw n b := by unfold eqW; exact decide_eq_true_iff
theorem LetsN.append {n : Nat} {a b : List Int} (ha : LetsN n a) (hb : LetsN n b) : LetsN n (a ++ b) := fun x hx => (List.mem_append.1 hx).elim (ha x) (hb x)
/-- What the reference asks of the normal form of one word and the other's inverse. -/
theorem eqW_triv {n : Nat} {a b : List Int} {s : St} (ha : LetsN n a) (hb : LetsN n b) (hs : IsNF n (a ++ invW b) s) : eqW n a b = (decide (s.p = 0) && decide (s.F.length = 0)) := by
  rw [Bool.eq_iff_iff, eqW_iff, ← nf_equal ha hb (nfw_spec ha) (nfw_spec hb) hs]
  simp only [Bool.and_eq_true, decide_eq_true_eq]
  constructor
  · rintro rfl; exact ⟨rfl, rfl⟩
  · rintro ⟨h1, h2⟩
    obtain ⟨p, F⟩ := s
    simp only at h1 h2
    rw [h1, List.eq_nil_of_length_eq_zero h2]

end Go.Proofs.YtccdnmafakaleaaGreatDoor

/-
  Words equal as braids, of the reference.
-/
namespace Go.Proofs.YtccdnmafakaleaaGreatDoor
set_option linter.unusedVariables false
set_option linter.unusedSimpArgs false
open Go.RowKit

/- append([]int64{}, list...), the result an own row that may grow: l00OwnR name · spec.l00Own function -/
set_option maxHeartbeats 1000000 in
theorem l00OwnR_any (v : Value) (l : List Int) (w : World) (hl : RdI w w.heap.size v l) (hlen : l.length ≤ 1048576) :
    Calls Tryz.prog 36 #[v] w (GivesRow w 2 1 l.length (vI l)) := by
  obtain ⟨A, c, rfl⟩ := hl.len
  obtain ⟨i0, hi, hz0, hz1, hz2⟩ := info_parts info_int
  have HR := Lib.hid (hl.reads).1
  generalize hn : l.length = n at *
  clear hl hn
  go_enter Tryz.func36, Tryz.ntmps36
  go_wp2_with (at_builtin; refine wpList_append_any _ rfl _ _ _ rfl w.heap.size 2 i0 _ 1 8 Tryz.underlying37 hi hz0 hz1 hz2 rfl (by decide) _ 0 [] rfl (World.ownsRow_lit _ _ _ (Nat.le_refl _) (by unfold maxLen; omega) rfl) w.heap.size _ n c (vI l) rfl (HR.out.alloc (Nat.le_refl _) _) (vI_one l) (by unfold maxLen; omega) (by omega) (by simp) ?_)
  intro v1 w1 hown hg hat
  have HB := Lib.hid (((Below.refl w.heap.size w).alloc (Nat.le_refl _) _).grown hg (by simp) (fun kk hkk => by simp [Value.ownBlock] at hkk; omega))
  have HO : Hid (w1.ownsRow w.heap.size 2 1 v1 n (vI l)) := by unfold Hid; simpa using hown
  clear hown hg hat
  go_wp2
  go_ret
  exact ⟨_, rfl, HO.out, HB.out⟩

set_option maxHeartbeats 400000 in
set_option maxRecDepth 100000 in
theorem l04Equal_any (n : Nat) (hn : n ≤ 12) (a b : List Int) (ha : LetsN n a) (hb : LetsN n b) (hal : a.length ≤ 2000) (hbl : b.length ≤ 2000) (u v : Value) (w : World) (hu : RdI w w.heap.size u a) (hv : RdI w w.heap.size v b) :
    Calls Tryz.prog 22 #[.int .i64 (n : Int), u, v] w fun e w' => e = .returned (.bool (eqW n a b)) ∧ Below w.heap.size w w' := by
  have HQ1 := Lib.hid (l00OwnR_any u a w hu (by omega))
  have HQ2 := Lib.hid (fun w1 (h : Below w.heap.size w w1) => l03Inverse_any v b w1 ((hv.below h).more h.size) (hb.bd hn) (by omega))
  obtain ⟨A, c, rfl⟩ := hu.len
  obtain ⟨A', c', rfl⟩ := hv.len
  obtain ⟨i0, hi, hz0, hz1, hz2⟩ := info_parts info_int
  have HA := Lib.hid ha
  have HBW := Lib.hid hb
  have hil : (invW b).length ≤ 2000 := by rw [invW_len]; omega
  clear hu hv ha hb
  go_enter Tryz.func22, Tryz.ntmps22
  go_wp2_with fail
  refine HQ1.out.mono ?_
  rintro e w1 ⟨v1, rfl, ho1, hb1⟩
  have HO1 := Lib.hid ho1
  have HB1 := Lib.hid hb1
  obtain ⟨A1, c1, rfl, -⟩ := (OwC.of_own ho1).cells
  have zz1 := hb1.size
  clear hb1 ho1
  go_wp2_with fail
  refine (HQ2.out _ HB1.out).mono ?_
  rintro e w2 ⟨v2, rfl, ho2, hb2⟩
  obtain ⟨A2, c2, rfl, -⟩ := ho2.cells
  have HR2 := Lib.hid (RdI.of_own ho2).reads.1
  have HO2 := Lib.hid (own_below HO1.out hb2)
  have HB2 := Lib.hid (HB1.out.trans (hb2.mono zz1))
  have zz2 := hb2.size
  clear hb2 ho2
  go_wp2_with (at_builtin; refine wpList_append_any _ rfl _ _ _ rfl w.heap.size 2 i0 _ 1 8 Tryz.underlying37 hi hz0 hz1 hz2 rfl (by decide) _ _ _ rfl HO2.out w2.heap.size A2 (invW b).length c2 (vI (invW b)) rfl HR2.out (vI_one _) (by unfold maxLen; omega) (by omega) (by omega) ?_)
  intro v3 w3 hown3 hg3 hat3
  have HB3 := Lib.hid (HB2.out.grown hg3 (by omega) (fun kk hkk => (HO2.out.lt kk hkk).1))
  have HO3 : Hid (w3.ownsRow w.heap.size 2 1 v3 (a ++ invW b).length (vI (a ++ invW b))) := by unfold Hid; rw [List.length_append, vI_append]; exact hown3
  have HR3 := Lib.hid (RdI.of_own (OwC.of_own HO3.out))
  have HQ3 := Lib.hid (l04Normal_any n hn (a ++ invW b) (HA.out.append HBW.out.inv) (by rw [List.length_append]; omega) v3 w3 HR3.out)
  have zz3 := HB3.out.size
  clear hown3 hg3 hat3
  obtain ⟨A3, c3, rfl, -⟩ := (OwC.of_own HO3.out).cells
  rw [List.length_append] at HQ3
  go_wp2_with fail
  refine HQ3.out.mono ?_
  rintro e w4 ⟨s, A4, c4, rfl, hs, hb4⟩
  have HB4 := Lib.hid (HB3.out.trans (hb4.mono zz3))
  have he := eqW_triv HA.out HBW.out hs
  have HZ4 := Lib.hid HB4.out.size
  obtain ⟨p, F⟩ := s
  dsimp only at he ⊢
  generalize F.length = fl at *
  have HE := Lib.hid he
  clear hs hb4 he
  by_cases h1 : p = 0
  · subst h1
    by_cases h2 : fl = 0
    · subst h2
      go_wp2
      go_ret
      exact ⟨ret_bool (by rw [HE.out]; simp), HB4.out.alloc HZ4.out _⟩
    · have h3 : ((fl : Int) == 0) = false := by simp; omega
      have HD := Lib.hid h2
      clear h2
      go_wp2
      go_ret
      exact ⟨ret_bool (by rw [HE.out]; simp [HD.out]), HB4.out.alloc HZ4.out _⟩
  · have h3 : (p == 0) = false := by simpa using h1
    have HD := Lib.hid h1
    clear h1
    go_wp2
    go_ret
    exact ⟨ret_bool (by rw [HE.out]; simp [HD.out]), HB4.out.alloc HZ4.out _⟩

end Go.Proofs.YtccdnmafakaleaaGreatDoor
