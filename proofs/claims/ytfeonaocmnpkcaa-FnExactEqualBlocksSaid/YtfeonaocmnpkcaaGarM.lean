/-
  Half twists taken out at the beginning, identities at the end, of the program: tidy.
-/
import Derived.Test.YtfeonaocmnpkcaaGarC
import Derived.Test.YtfeonaocmnpkcaaGarK
import Derived.Test.YtfeonaocmnpkcaaBlkI
import Derived.Deep.Cut
import Derived.Deep.CutRange
namespace Go.Proofs.Ytfeonaocmnpkcaa
set_option linter.unusedVariables false
set_option linter.unusedSimpArgs false
open Go.RowKit

def hdIs (n : Nat) (q : Pm) : List Fh → Bool
  | [] => false
  | x :: _ => decide (lst n x.p = lst n q)
def laIs (n : Nat) (q : Pm) (H : List Fh) : Bool := hdIs n q H.reverse
theorem ones_uniq {A B : List Pm} {x : Pm} : ∀ {b c : Nat}, A ++ List.replicate b x = B ++ List.replicate c x → A.getLast? ≠ some x → B.getLast? ≠ some x → A = B
  | 0, 0, e, _, _ => by simpa using e
  | b + 1, 0, e, _, hB => by
    exfalso
    apply hB
    rw [List.replicate_zero, List.append_nil] at e
    rw [← e, List.replicate_succ', ← List.append_assoc, List.getLast?_concat]
  | 0, c + 1, e, hA, _ => by
    exfalso
    apply hA
    rw [List.replicate_zero, List.append_nil] at e
    rw [e, List.replicate_succ', ← List.append_assoc, List.getLast?_concat]
  | b + 1, c + 1, e, hA, hB => by
    rw [List.replicate_succ', List.replicate_succ', ← List.append_assoc, ← List.append_assoc] at e
    exact ones_uniq (List.append_inj_left' e rfl) hA hB
/-- What is left when no half twist is at the beginning and no identity at the end. -/
theorem tidy_law {n : Nat} (hn : 2 ≤ n) {L L2 : List Pm} {j b : Nat} (hL : AllOn n L) (hs : Sett n L) (e : L = nfm n j L2 b) (h1 : (L2 ++ List.replicate b Pm.one).head? ≠ some (Pm.half n)) (h2 : L2.getLast? ≠ some Pm.one) : Good n L2 := by
  subst e
  have hL1 : AllOn n (L2 ++ List.replicate b Pm.one) := hL.right
  have hs1 : Sett n (L2 ++ List.replicate b Pm.one) := sett_drop _ hs
  obtain ⟨a, F, c, e, hg⟩ := shape_ex _ hL1 hs1
  cases a with
  | zero =>
    unfold nfm at e
    rw [List.replicate_zero, List.nil_append] at e
    have h3 : F.getLast? ≠ some Pm.one := fun h => (hg _ (List.mem_of_getLast? h)).1 rfl
    rw [ones_uniq e h2 h3]
    exact hg
  | succ a =>
    exfalso
    apply h1
    rw [e]
    rfl

theorem hdIs_not {n : Nat} {q : Pm} {H : List Fh} (h : hdIs n q H = false) : (H.map Fh.p).head? ≠ some q := by
  cases H with
  | nil => simp
  | cons x T =>
    intro e
    injection e with e
    rw [show hdIs n q (x :: T) = decide (lst n x.p = lst n q) from rfl, show x.p = q from e] at h
    simp at h
theorem laIs_not {n : Nat} {q : Pm} {H : List Fh} (h : laIs n q H = false) : (H.map Fh.p).getLast? ≠ some q := by
  have h1 := hdIs_not h
  rw [List.map_reverse, List.head?_reverse] at h1
  exact h1
set_option maxHeartbeats 4000000 in
set_option maxRecDepth 100000 in
theorem tidy_any (n : Nat) (hn2 : 2 ≤ n) (hn : n ≤ 12) (lo gb : Nat) (pw : Int) (v : Value) (H : List Fh) (w : World) (hbx : BoxN n gb w pw v) (hfc : Fac n lo gb w v H) (hlo : lo ≤ gb)
    (hst : Sett n (H.map Fh.p)) (hp0 : -1000000 ≤ pw) (hp1 : pw ≤ 1000000) (hlen : H.length ≤ 1000000) :
    Calls Try.prog 106 #[.pointer (some ⟨gb, 0, none⟩)] w fun e w' => e = .returned (.tuple #[]) ∧ ∃ (a b : Nat) (v' : Value) (H' : List Fh), BoxN n gb w' (pw + a) v' ∧ Fac n lo gb w' v' H' ∧ H.map Fh.p = nfm n a (H'.map Fh.p) b ∧ Good n (H'.map Fh.p) ∧ Below lo w w' := by
  have HBX := Lib.hid hbx
  have HFC := Lib.hid hfc
  have HST := Lib.hid hst
  have HLE := Lib.hid hlen
  have hn1 : (1 : Int) < (n : Int) := by omega
  have hgb := hbx.lt
  obtain ⟨b0, -, -⟩ := hbx.cells
  clear hbx hfc hst hlen
  go_enter Try.func106, Try.ntmps106
  go_upto_region 0 with fail
  go_cut [2, 3] from 4 (fun s2 s3 wc => ∃ (g1 c1 g2 c2 : Nat) (F1 F2 : Nat → Value), s2 = .slice (some ⟨g1, 0, none⟩) n c1 ∧ s3 = .slice (some ⟨g2, 0, none⟩) n c2 ∧ w.heap.size ≤ g1 ∧ w.heap.size ≤ g2 ∧ Hid (RowP n wc g1 c1 (Pm.half n) F1) ∧ Hid (RowP n wc g2 c2 Pm.one F2) ∧ Below w.heap.size w wc)
  case first =>
    go_region_with ((first | (go_at_call 93; refine (halfTwist_any n (by omega) hn _).mono ?_; rintro e wa ⟨va, rfl, hoa, hba⟩; obtain ⟨ga, ca, Fa, rfl, hloa, hhia, hrowa, hnca, hcapa, hvala⟩ := own_lst hoa (by omega); simp only [lst_len] at *; have HA := Lib.hid (show Below w.heap.size w wa from by first | exact HB.out.trans (hba.mono HB.out.size) | exact (Below.refl w.heap.size w).drew.trans hba); have HBA := Lib.hid hba; have qa : wa.cell? ⟨gb, 0, none⟩ = some (.int .i64 (n : Int)) := (HA.out.cell (p := ⟨gb, 0, none⟩) hgb).trans b0; have HRA := Lib.hid (show RowP n wa ga ca (Pm.half n) Fa from ⟨hrowa, hnca, hcapa, hvala⟩); clear hba hoa hrowa hvala) | (go_at_call 101; refine (identity_any n hn _).mono ?_; rintro e wb ⟨vb, rfl, hob, hbb⟩; obtain ⟨gB, cb, Fb, rfl, hlob, hhib, hrowb, hncb, hcapb, hvalb⟩ := own_lst hob (by omega); simp only [lst_len] at *; have HB := Lib.hid (show Below w.heap.size w wb from by first | exact HA.out.trans (hbb.mono HA.out.size) | exact (Below.refl w.heap.size w).drew.trans hbb); have HBB := Lib.hid hbb; have qb : wb.cell? ⟨gb, 0, none⟩ = some (.int .i64 (n : Int)) := (HB.out.cell (p := ⟨gb, 0, none⟩) hgb).trans b0; have HRB := Lib.hid (show RowP n wb gB cb Pm.one Fb from ⟨hrowb, hncb, hcapb, hvalb⟩); clear hbb hob hrowb hvalb)))
    all_goals
      go_wp2
      go_meet
      case rel =>
        first
        | exact ⟨ga, ca, gB, cb, Fa, Fb, rfl, rfl, (by have := HB.out.size; first | exact hloa | omega), (by have := HA.out.size; first | exact hlob | omega), HRA.out.block (HBB.out.block _ HRA.out.lt), HRB.out, HB.out⟩
        | exact ⟨ga, ca, gB, cb, Fa, Fb, rfl, rfl, (by have := HB.out.size; first | exact hloa | omega), (by have := HA.out.size; first | exact hlob | omega), HRA.out, HRB.out.block (HBA.out.block _ HRB.out.lt), HA.out⟩
  case rest =>
    obtain ⟨g1, c1, g2, c2, F1, F2, rfl, rfl, hg1, hg2, HR1, HR2, hbc⟩ := hcut
    obtain ⟨wa, rfl⟩ : ∃ x : World, x = wc := ⟨_, rfl⟩
    have HBC := Lib.hid hbc
    have zc := hbc.size
    have HT0 := Lib.hid (Tch.of_below (S := fun b => b = gb) hbc)
    have HBXa := Lib.hid (HBX.out.block (hbc.block _ hgb))
    have HFCa := Lib.hid (HFC.out.below hbc)
    clear hbc b0
    have hle1 := HR1.out.le
    have hle2 := HR2.out.le
    have hcm1 := HR1.out.cap
    have hcm2 := HR2.out.cap
    unfold maxLen at hcm1 hcm2
    go_wp2
    go_loopg [] H.length (fun gk wr => ∃ (j : Nat) (v1 : Value) (H1 : List Fh), Hid (gk = H1.length) ∧ Hid (BoxN n gb wr (pw + j) v1) ∧ Hid (Fac n lo gb wr v1 H1) ∧ Hid (H.map Fh.p = List.replicate j (Pm.half n) ++ H1.map Fh.p) ∧ Hid (j + H1.length = H.length) ∧ Hid (Tch (fun b => b = gb) wa wr))
    case atStart => exact ⟨0, v, H, rfl, by unfold Hid; rw [show pw + ((0 : Nat) : Int) = pw by omega]; exact HBXa.out, HFCa.out, rfl, Nat.zero_add _, Tch.refl _ _⟩
    case round =>
      obtain ⟨wo, rfl⟩ : ∃ x : World, x = wr := ⟨_, rfl⟩
      obtain ⟨j, v1, H1, HG, HB1, HF1, HL1, HJ, HT1⟩ := hrel
      obtain ⟨gko, rfl⟩ : ∃ x : Nat, x = gk := ⟨_, rfl⟩
      have HRA := Lib.hid (HR1.out.block (HT1.out.block g1 HR1.out.lt (show ¬ g1 = gb by omega)))
      have HRB := Lib.hid (HR2.out.block (HT1.out.block g2 HR2.out.lt (show ¬ g2 = gb by omega)))
      have hjl : j ≤ 1000000 := by have := HJ.out; have := HLE.out; omega
      go_upto_region 1 with fail
      go_cut [36] from 14 to 51 (fun s36 wx => s36 = .bool (hdIs n (Pm.half n) H1) ∧ Hid (Below wo.heap.size wo wx))
      case first =>
        obtain ⟨d0, d1, d2⟩ := HB1.out.cells
        cases H1 with
        | nil =>
          obtain ⟨A1, cc1, rfl, -, -⟩ := HF1.out.off.shape
          simp only [List.length_nil] at *
          go_wp2
          go_meet
          case rel => exact ⟨rfl, Below.refl _ _⟩
        | cons x T =>
          obtain ⟨g, off, cap, y, rfl, hy, hym, c0, f0, hgl, hgg, hgs, hyg⟩ := HF1.out.get (k := 0) (by simp)
          simp at hy
          subst hy
          have HRX := Lib.hid (HF1.out.row x hym)
          obtain ⟨hmc, hcm⟩ := HF1.out.off.le
          unfold maxLen at hcm
          simp only [List.length_cons, Nat.add_zero] at *
          have ht0 : (0 : Int) < (T.length : Int) + 1 := by omega
          go_wp2_with fail
          refine (eqlInts_any _ _ (lst n x.p) (lst n (Pm.half n)) _ _ HRX.out.rd HRA.out.rd (Nat.le_refl _)).mono ?_
          rintro e w1 ⟨rfl, hb1⟩
          have HBW := Lib.hid hb1
          clear hb1
          go_wp2
          go_meet
          case rel => exact ⟨rfl, HBW.out⟩
      case rest =>
        obtain ⟨rfl, HBX1⟩ := hcut
        obtain ⟨wx, rfl⟩ : ∃ x : World, x = wc := ⟨_, rfl⟩
        have HB2 := Lib.hid (HB1.out.block (HBX1.out.block _ HB1.out.lt))
        have HF2 := Lib.hid (HF1.out.below HBX1.out)
        have HT2 := Lib.hid (HT1.out.trans (Tch.of_below HBX1.out))
        cases hc : hdIs n (Pm.half n) H1
        · have HH1 := Lib.hid (hdIs_not hc)
          have HRA2 := Lib.hid (HR1.out.block (HT2.out.block g1 HR1.out.lt (show ¬ g1 = gb by omega)))
          have HRB2 := Lib.hid (HR2.out.block (HT2.out.block g2 HR2.out.lt (show ¬ g2 = gb by omega)))
          clear hc
          go_wp2
          go_loopg [] H1.length (fun gk wr => ∃ (b : Nat) (v2 : Value) (H2 : List Fh), Hid (gk = H2.length) ∧ Hid (BoxN n gb wr (pw + j) v2) ∧ Hid (Fac n lo gb wr v2 H2) ∧ Hid (H1.map Fh.p = H2.map Fh.p ++ List.replicate b Pm.one) ∧ Hid (b + H2.length = H1.length) ∧ Hid (Tch (fun b => b = gb) wa wr))
          case atStart => exact ⟨0, v1, H1, rfl, HB2.out, HF2.out, by simp [Hid], Nat.zero_add _, HT2.out⟩
          case round =>
            obtain ⟨wi, rfl⟩ : ∃ x : World, x = wr := ⟨_, rfl⟩
            obtain ⟨b, v2, H2, HGI, HBI, HFI, HLI, HJI, HTI⟩ := hrel
            obtain ⟨gki, rfl⟩ : ∃ x : Nat, x = gk := ⟨_, rfl⟩
            have HRBI := Lib.hid (HR2.out.block (HTI.out.block g2 HR2.out.lt (show ¬ g2 = gb by omega)))
            have hl2 : H2.length ≤ 1000000 := by have := HJ.out; have := HLE.out; have := HJI.out; omega
            go_upto_region 4 with fail
            go_cut [73] from 52 to 87 (fun s73 wx => s73 = .bool (laIs n Pm.one H2) ∧ Hid (Below wi.heap.size wi wx))
            case first =>
              have HC := Lib.hid HBI.out.cells
              rcases List.eq_nil_or_concat H2 with rfl | ⟨T, x, rfl⟩
              · obtain ⟨A1, cc1, rfl, -, -⟩ := HFI.out.off.shape
                simp only [List.length_nil] at *
                have e2 := fun X => wgrow_cell (x := X) HC.out.2.2
                go_wp2
                refine wp_region_grow (by kernel_rfl) (by kernel_rfl) ?_
                repeat (go_big_quiet_step (fail))
                refine wpQuiet_nil ?_
                intro w1 hb1
                go_wp2
                go_meet
                case rel => exact ⟨rfl, hb1⟩
              · obtain ⟨g, off, cap, y, rfl, hy, hym, c0, f0, hgl, hgg, hgs, hyg⟩ := HFI.out.get (k := T.length) (by simp)
                simp at hy
                subst hy
                have HRX := Lib.hid (HFI.out.row x hym)
                obtain ⟨hmc, hcm⟩ := HFI.out.off.le
                unfold maxLen at hcm
                rw [List.concat_eq_append] at *
                simp only [List.length_append, List.length_cons, List.length_nil, Nat.zero_add] at *
                have e2 := fun X => wgrow_cell (x := X) HC.out.2.2
                have e0 := fun X => wgrow_cell (x := X) c0
                have ht0 : (0 : Int) < (T.length : Int) + 1 := by omega
                have HQ := Lib.hid (fun X => eqlInts_any _ _ (lst n x.p) (lst n Pm.one) (wgrow wi X) _ (HRX.out.block (w' := wgrow wi X) ((below_wgrow wi X).block _ HRX.out.lt)).rd (HRBI.out.block (w' := wgrow wi X) ((below_wgrow wi X).block _ HRBI.out.lt)).rd (Nat.le_refl _))
                have HLA : Hid (laIs n Pm.one (T ++ [x]) = decide (lst n x.p = lst n Pm.one)) := by unfold Hid laIs; rw [List.reverse_append]; rfl
                clear c0 hym
                go_wp2
                refine wp_region_grow (by kernel_rfl) (by kernel_rfl) ?_
                repeat (go_big_quiet_step ((go_at_call 89; exact calls_grow (HQ.out _))))
                refine wpQuiet_nil ?_
                intro w1 hb1
                go_wp2
                go_meet
                case rel => exact ⟨by rw [HLA.out], hb1⟩
            case rest =>
              obtain ⟨rfl, HBY⟩ := hcut
              obtain ⟨wy, rfl⟩ : ∃ x : World, x = wc := ⟨_, rfl⟩
              have HB3 := Lib.hid (HBI.out.block (HBY.out.block _ HBI.out.lt))
              have HF3 := Lib.hid (HFI.out.below HBY.out)
              have HT3 := Lib.hid (HTI.out.trans (Tch.of_below HBY.out))
              cases hc : laIs n Pm.one H2
              · have HC := Lib.hid hc
                clear hc
                go_wp2
                go_end0
                have e : H.map Fh.p = nfm n j (H2.map Fh.p) b := by rw [HL1.out, HLI.out]; rfl
                have hon : AllOn n (H.map Fh.p) := by intro p hp; obtain ⟨y, hy, rfl⟩ := List.mem_map.1 hp; exact HFC.out.on y hy
                exact ⟨rfl, j, b, v2, H2, HB3.out, HF3.out, e, tidy_law hn2 hon HST.out e (by rw [← HLI.out]; exact HH1.out) (laIs_not HC.out), (HBC.out.mono (by omega)).trans (HT3.out.below (fun k hk => by rw [hk]; exact hlo) (by omega))⟩
              · rcases List.eq_nil_or_concat H2 with rfl | ⟨T, x, rfl⟩
                · simp [laIs, hdIs] at hc
                · rw [List.concat_eq_append] at *
                  have HPX := Lib.hid (show x.p = Pm.one from lst_inj (HF3.out.on x (by simp)) (Pm.on_one n) (by unfold laIs at hc; rw [List.reverse_append] at hc; simpa [hdIs] using hc))
                  obtain ⟨g, off, cap, y, rfl, hy, hym, c0, f0, hgl, hgg, hgs, hyg⟩ := HF3.out.get (k := T.length) (by simp)
                  obtain ⟨hmc, hcm⟩ := HF3.out.off.le
                  unfold maxLen at hcm
                  obtain ⟨d0, d1, d2⟩ := HB3.out.cells
                  have e0 := fun i => HB3.out.frozen i
                  have HFT := Lib.hid HF3.out.init
                  clear hc hy hym c0
                  simp only [List.length_append, List.length_cons, List.length_nil, Nat.zero_add] at *
                  go_wp2
                  go_region
                  all_goals
                    go_wp2
                    go_roundg T.length
                    case measure => rw [HGI.out]; omega
                    case rel => exact ⟨b + 1, .slice (some ⟨g, off, none⟩) T.length cap, T, rfl, (HB3.out.fac _).drew, (HFT.out.box rfl _).drew, by unfold Hid; rw [HLI.out, List.map_append, List.replicate_succ, List.append_assoc, List.map_cons, HPX.out]; rfl, by have := HJI.out; unfold Hid; omega, (HT3.out.setCell rfl _).drew⟩
        · cases H1 with
          | nil => simp [hdIs] at hc
          | cons x T =>
            have HPX := Lib.hid (show x.p = Pm.half n from lst_inj (HF2.out.on x (by simp)) (Pm.on_half n) (by simpa [hdIs] using hc))
            obtain ⟨g, off, cap, y, rfl, hy, hym, c0, f0, hgl, hgg, hgs, hyg⟩ := HF2.out.get (k := 0) (by simp)
            clear hc hy hym c0
            obtain ⟨hmc, hcm⟩ := HF2.out.off.le
            unfold maxLen at hcm
            obtain ⟨d0, d1, d2⟩ := HB2.out.cells
            have e0 := fun i => HB2.out.frozen i
            have HFT := Lib.hid HF2.out.tail
            simp only [List.length_cons] at *
            have hc1 : 1 ≤ cap := by omega
            by_cases hcap : cap = 1
            · subst hcap
              obtain rfl : T = [] := List.eq_nil_of_length_eq_zero (by omega)
              simp only [List.length_nil] at *
              go_wp2
              go_roundg 0
              case measure => rw [HG.out]; omega
              case rel => exact ⟨j + 1, .slice (some ⟨g, off, none⟩) 0 0, [], rfl, by unfold Hid; rw [show pw + ((j + 1 : Nat) : Int) = pw + j + 1 by omega]; exact (HB2.out.pw _).fac _, (HFT.out.box rfl _).box rfl _, by unfold Hid; rw [HL1.out, List.replicate_succ', List.append_assoc, List.map_cons, HPX.out]; rfl, by have := HJ.out; unfold Hid; simp only [List.length_nil]; omega, (HT2.out.setCell rfl _).setCell rfl _⟩
            · rw [if_neg hcap] at HFT
              go_wp2
              go_roundg T.length
              case measure => rw [HG.out]; omega
              case rel => exact ⟨j + 1, .slice (some ⟨g, off + 1, none⟩) T.length (cap - 1), T, rfl, by unfold Hid; rw [show pw + ((j + 1 : Nat) : Int) = pw + j + 1 by omega]; exact (HB2.out.pw _).fac _, (HFT.out.box rfl _).box rfl _, by unfold Hid; rw [HL1.out, List.replicate_succ', List.append_assoc, List.map_cons, HPX.out]; rfl, by have := HJ.out; unfold Hid; omega, (HT2.out.setCell rfl _).setCell rfl _⟩

end Go.Proofs.Ytfeonaocmnpkcaa
