/-
  The passes of operations, of the reference.
-/
import Derived.Test.YtolcgopfbbmjgaaPs1
namespace Go.Proofs.Ytolcgopfbbmjgaa
set_option linter.unusedVariables false
set_option linter.unusedSimpArgs false
open Go.RowKit

set_option maxHeartbeats 8000000 in
set_option maxRecDepth 100000 in
theorem l09Passes_any (n : Int) (v : Value) (l : List Opr) (w : World) (hl : RdO w w.heap.size v l) (hok : opsB n l = true) : Calls Try.prog 19 #[v] w (GivesOw w 50 6 (psL l).length (vPs (psL l))) := by
  obtain ⟨A, N, c, rfl, hln, hl', gl⟩ := hl
  have hN : N ≤ 1500 := by have := ops_len hok; have := hl'.out; omega
  have GL := Lib.hid gl
  have HLN := Lib.hid hl'.out
  have HOK := Lib.hid (fun (k : Nat) (x : Opr) (hx : l[k]? = some x) => okOp_rng (ops_at hok hx))
  obtain ⟨ip, hip, hp0, hp1, hp2⟩ := info_parts info_ps
  generalize hR : psL l = R
  have HR := Lib.hid (show R = psGo 0 0 none [] (l.drop 0) by rw [← hR]; rfl)
  clear gl hl' hok hR
  go_enter Try.func19, Try.ntmps19
  go_wp2
  go_loopw [3, 4, 5, 6, 7] (fun out rk la op i wr => ∃ (k : Nat) (r z : Int) (lt : Option Int) (acc : List Pas), k ≤ N ∧ i = .int .i64 k ∧ rk = .int .i64 r ∧ la = .int .i64 z ∧ -3 ≤ r ∧ r ≤ 3 ∧ -3 ≤ z ∧ z ≤ 26 ∧ op = .bool lt.isSome ∧ Hid (wr.ownsRow w.heap.size 50 6 out acc.length (vPs acc)) ∧ acc.length ≤ k ∧ Hid (R = psGo k r lt acc (l.drop k)) ∧
    Hid (∀ q, lt = some q → z = q ∧ ∃ ys p, acc = ys ++ [p]) ∧ Hid (∀ x ∈ acc, 0 ≤ x.n ∧ x.n ≤ (k : Int)) ∧ Hid (Below w.heap.size w wr)) (fun _ _ _ _ i _ => N - (intOf i).toNat)
  case atStart => exact ⟨0, 0, 0, none, [], Nat.zero_le _, rfl, rfl, rfl, by omega, by omega, by omega, by omega, rfl, World.ownsRow_lit _ _ _ (Nat.le_refl _) (by unfold maxLen; omega) rfl, Nat.le_refl _, HR.out, (fun q hq => by cases hq), (fun x hx => by simp at hx), (Below.refl _ _).alloc (Nat.le_refl _) _⟩
  case round =>
    rename_i wr
    obtain ⟨k, r, z, lt, acc, hk, rfl, rfl, rfl, r0, r1, z0, z1, rfl, HO, hak, HD, HLT, HCN, HB⟩ := hrel
    have hsz := HB.out.size
    by_cases hlt : k < N
    · obtain ⟨b, off, x, rfl, hbb, hlk, hc⟩ := GL.out k hlt
      obtain ⟨g1, g2, g3, g4, g5⟩ := HOK.out k x hlk
      have hcw := hc.below HB.out hbb
      have hblt : b < wr.heap.size := Nat.lt_of_lt_of_le hbb hsz
      obtain ⟨c0, c1, c2, c3, c4, c5, c6, c7⟩ := hcw.eight
      have HLK := Lib.hid hlk
      have HCW := Lib.hid hcw
      have HQK := Lib.hid (l09Kind_any x b (off + k * 8) wr hcw)
      by_cases h0 : psK x.k = 0
      · have HN := Lib.hid (ps_zero HD.out hlk h0)
        rw [h0] at HQK
        by_cases h7 : x.k = 7
        · rw [if_pos h7] at HN
          have h7' : (x.k == 7) = true := by simpa using h7
          clear hc hlk hcw h7 h0 g3 g4 g5
          go_wp2_with fail
          refine HQK.out.mono ?_
          rintro e w1 ⟨rfl, rfl⟩
          go_wp2
          exact ⟨⟨k + 1, x.r, z, none, acc, by omega, by go_num, rfl, rfl, g1, g2, z0, z1, rfl, HO.out, by omega, HN.out, (fun q hq => by cases hq), cnt_keep HCN.out, HB.out⟩, by simp [intOf]; omega⟩
        · rw [if_neg h7] at HN
          have h7' : (x.k == 7) = false := by simpa using h7
          clear hc hlk hcw h7 h0 g3 g4 g5
          go_wp2_with fail
          refine HQK.out.mono ?_
          rintro e w1 ⟨rfl, rfl⟩
          go_wp2
          exact ⟨⟨k + 1, r, z, none, acc, by omega, by go_num, rfl, rfl, r0, r1, z0, z1, rfl, HO.out, by omega, HN.out, (fun q hq => by cases hq), cnt_keep HCN.out, HB.out⟩, by simp [intOf]; omega⟩
      · obtain ⟨g6, g7⟩ := g3 h0
        have h7' : (x.k == 7) = false := by
          have : x.k ≠ 7 := fun e => h0 (by rw [e]; rfl)
          simpa using this
        have hkc := psK_cases x.k
        have hz' : (psK x.k == 0) = false := by simpa using h0
        have HG4 := Lib.hid g4
        have HG5 := Lib.hid (show psK x.k ≠ 1 → x.d = 0 ∧ x.c = 0 from fun h => g5 (by omega))
        have hpl := plc_rngP x.fb x.fa r g6 g7 r0 r1
        have HQP := Lib.hid (l07Place_any x.fb x.fa r (by omega) (by omega) (by omega) (by omega) wr)
        cases lt with
        | none =>
          have HN := Lib.hid (ps_none HD.out hlk h0)
          clear hc hlk hcw h0 g3 g4 g5
          generalize plc x.fb x.fa r = pl at *
          generalize psK x.k = kd at *
          by_cases h1 : kd = 1
          · skip
            -- the kind and the place are asked
            have HH1 := Lib.hid h1
            clear h1
            go_wp2_with fail
            refine HQK.out.mono ?_
            rintro e w0 ⟨rfl, rfl⟩
            go_wp2_with fail
            refine HQP.out.mono ?_
            rintro e w1 ⟨rfl, hb1⟩
            have HB1 := Lib.hid (HB.out.trans (hb1.mono hsz))
            have HO1 := Lib.hid (own_below HO.out hb1)
            have hz3 : w.heap.size ≤ w1.heap.size := HB1.out.size
            have HC1 := Lib.hid (HCW.out.below hb1 hblt)
            have hblt1 : b < w1.heap.size := Nat.lt_of_lt_of_le hblt hb1.size
            clear c0 c1 c2 c3 c4 c5 c6 c7 hb1
            obtain ⟨c0, c1, c2, c3, c4, c5, c6, c7⟩ := HC1.out.eight
            have hca := fun o => (HC1.out.alloc hblt1 o).eight
            have ca1 := fun o => (hca o).2.1
            have ca6 := fun o => (hca o).2.2.2.2.2.2.1
            clear hca
            have n0 : (kd == 1) = true := by have h1 := HH1.out; simpa using h1
            -- a pass more, behind acc; HO1: the row of passes at the world here; HB1: what stands there; w1.heap.size: the next block's number; x.d, x.c: direction and carrier as they are told
            go_wp2_with (at_builtin; refine wpList_append_own _ rfl _ _ 47 rfl w.heap.size 50 ip _ 6 48 Try.underlying47 hip hp0 hp1 hp2 rfl (by decide) _ _ _ rfl ((HO1.out.alloc _).alloc _) ⟨w1.heap.size + 1, 0, none⟩ 1 1 (⟨kd, x.d, x.c, r, k, 1⟩ : Pas).cells rfl rfl ?c1 ?c2 ?c3 ?c4 ?c5 ?_)
            case c1 => exact new_cells' _ _ (by simp [World.drewN])
            case c2 => intro u hu; simp at hu; rcases hu with rfl | rfl | rfl | rfl | rfl | rfl <;> rfl
            case c3 => unfold maxLen; omega
            case c4 => omega
            case c5 => have := HB1.out.size; simp; omega
            intro v' w2 hown2 hgrow2 _
            have HB2 := Lib.hid ((((HB1.out.alloc HB1.out.size _)).alloc (by have := HB1.out.size; simp; omega) _).grown hgrow2 (by have := HB1.out.size; simp; omega) (fun g hg => (HO.out.lt g hg).1))
            have HO2 : Hid (w2.ownsRow w.heap.size 50 6 v' (acc ++ ([⟨kd, x.d, x.c, r, k, 1⟩] : List Pas)).length (vPs (acc ++ ([⟨kd, x.d, x.c, r, k, 1⟩] : List Pas)))) := by
              unfold Hid
              rw [vPs_snoc]
              simp only [List.length_append, List.length_singleton]
              try rw [HEQ.out]
              exact hown2
            clear hown2 hgrow2
            go_wp2
            exact ⟨⟨k + 1, r, pl, some pl, acc ++ ([⟨kd, x.d, x.c, r, k, 1⟩] : List Pas), by omega, by go_num, rfl, rfl, r0, r1, hpl.1, hpl.2, rfl, HO2.out, by simp; omega, HN.out, (fun q' hq' => ⟨by injection hq', ⟨_, _, rfl⟩⟩), cnt_push HCN.out rfl, HB2.out⟩, by simp [intOf]; omega⟩
          · skip
            -- the kind and the place are asked
            have HH1 := Lib.hid h1
            clear h1
            go_wp2_with fail
            refine HQK.out.mono ?_
            rintro e w0 ⟨rfl, rfl⟩
            go_wp2_with fail
            refine HQP.out.mono ?_
            rintro e w1 ⟨rfl, hb1⟩
            have HB1 := Lib.hid (HB.out.trans (hb1.mono hsz))
            have HO1 := Lib.hid (own_below HO.out hb1)
            have hz3 : w.heap.size ≤ w1.heap.size := HB1.out.size
            have HC1 := Lib.hid (HCW.out.below hb1 hblt)
            have hblt1 : b < w1.heap.size := Nat.lt_of_lt_of_le hblt hb1.size
            clear c0 c1 c2 c3 c4 c5 c6 c7 hb1
            obtain ⟨c0, c1, c2, c3, c4, c5, c6, c7⟩ := HC1.out.eight
            have hca := fun o => (HC1.out.alloc hblt1 o).eight
            have ca1 := fun o => (hca o).2.1
            have ca6 := fun o => (hca o).2.2.2.2.2.2.1
            clear hca
            have n0 : (kd == 1) = false := by have h1 := HH1.out; simpa using h1
            have HEQ := Lib.hid (show (⟨kd, x.d, x.c, r, k, 1⟩ : Pas) = ⟨kd, 0, 0, r, k, 1⟩ by rw [(HG5.out HH1.out).1, (HG5.out HH1.out).2])
            -- a pass more, behind acc; HO1: the row of passes at the world here; HB1: what stands there; w1.heap.size: the next block's number; 0, 0: direction and carrier as they are told
            go_wp2_with (at_builtin; refine wpList_append_own _ rfl _ _ 47 rfl w.heap.size 50 ip _ 6 48 Try.underlying47 hip hp0 hp1 hp2 rfl (by decide) _ _ _ rfl ((HO1.out.alloc _).alloc _) ⟨w1.heap.size + 1, 0, none⟩ 1 1 (⟨kd, 0, 0, r, k, 1⟩ : Pas).cells rfl rfl ?c1 ?c2 ?c3 ?c4 ?c5 ?_)
            case c1 => exact new_cells' _ _ (by simp [World.drewN])
            case c2 => intro u hu; simp at hu; rcases hu with rfl | rfl | rfl | rfl | rfl | rfl <;> rfl
            case c3 => unfold maxLen; omega
            case c4 => omega
            case c5 => have := HB1.out.size; simp; omega
            intro v' w2 hown2 hgrow2 _
            have HB2 := Lib.hid ((((HB1.out.alloc HB1.out.size _)).alloc (by have := HB1.out.size; simp; omega) _).grown hgrow2 (by have := HB1.out.size; simp; omega) (fun g hg => (HO.out.lt g hg).1))
            have HO2 : Hid (w2.ownsRow w.heap.size 50 6 v' (acc ++ ([⟨kd, x.d, x.c, r, k, 1⟩] : List Pas)).length (vPs (acc ++ ([⟨kd, x.d, x.c, r, k, 1⟩] : List Pas)))) := by
              unfold Hid
              rw [vPs_snoc]
              simp only [List.length_append, List.length_singleton]
              try rw [HEQ.out]
              exact hown2
            clear hown2 hgrow2
            go_wp2
            exact ⟨⟨k + 1, r, pl, some pl, acc ++ ([⟨kd, x.d, x.c, r, k, 1⟩] : List Pas), by omega, by go_num, rfl, rfl, r0, r1, hpl.1, hpl.2, rfl, HO2.out, by simp; omega, HN.out, (fun q' hq' => ⟨by injection hq', ⟨_, _, rfl⟩⟩), cnt_push HCN.out rfl, HB2.out⟩, by simp [intOf]; omega⟩
        | some q =>
          obtain ⟨rfl, ys, p, rfl⟩ := HLT.out q rfl
          have HF := Lib.hid (fun hf => ps_fit HD.out hlk h0 hf)
          have HNF := Lib.hid (fun hf => ps_not HD.out hlk h0 hf)
          have hyl : (ys ++ [p]).length = ys.length + 1 := by simp
          have HO0 := HO.out
          rw [hyl] at HO0
          obtain ⟨go, cap, rfl, hgB, hgw, hcap, -⟩ := row_slice HO0 (by omega)
          have hpn := HCN.out p (by simp)
          rw [hyl] at HO
          have hal : ys.length + 1 ≤ k := by rw [← hyl]; exact hak
          clear hak hyl HO0 HLT hc hlk hcw g3 g4 g5
          generalize plc x.fb x.fa r = pl at *
          generalize psK x.k = kd at *
          by_cases a1 : p.k = kd
          case neg =>
            have n1 : (p.k == kd) = false := by simpa using a1
            have HN := Lib.hid (HNF.out (by simp [psFit, a1]))
            clear a1
            by_cases h1 : kd = 1
            · skip
              -- the kind and the place are asked
              have HH1 := Lib.hid h1
              clear h1
              go_wp2_with fail
              refine HQK.out.mono ?_
              rintro e w0 ⟨rfl, rfl⟩
              go_wp2_with fail
              refine HQP.out.mono ?_
              rintro e w1 ⟨rfl, hb1⟩
              have HB1 := Lib.hid (HB.out.trans (hb1.mono hsz))
              have HO1 := Lib.hid (own_below HO.out hb1)
              have hz3 : w.heap.size ≤ w1.heap.size := HB1.out.size
              have HC1 := Lib.hid (HCW.out.below hb1 hblt)
              have hblt1 : b < w1.heap.size := Nat.lt_of_lt_of_le hblt hb1.size
              clear c0 c1 c2 c3 c4 c5 c6 c7 hb1
              obtain ⟨c0, c1, c2, c3, c4, c5, c6, c7⟩ := HC1.out.eight
              have hca := fun o => (HC1.out.alloc hblt1 o).eight
              have ca1 := fun o => (hca o).2.1
              have ca6 := fun o => (hca o).2.2.2.2.2.2.1
              clear hca
              -- does the pass go on?
              have hpc : CellsAt w1 go (ys.length * 6) p.cells := fun i u hu => by
                have hi : i < 6 := (List.getElem?_eq_some_iff.1 hu).1
                exact (own_cellx HO1.out (i := ys.length * 6 + i) (by rw [vPs_last _ _ hi]; exact hu)).1
              have hfz1 : ∀ o, w1.frozen? ⟨go, o, none⟩ = false := (own_cellx HO1.out (i := ys.length * 6 + 0) (by rw [vPs_last _ _ (by omega)]; rfl)).2.1
              obtain ⟨p0, p1, p2, p3, p4, p5⟩ := hpc.six
              have HPC := Lib.hid hpc
              clear hpc ca1 ca6
              go_wp2
              go_quiet (fail)
              have HB3 := Lib.hid (below_drewN HB1.out nq)
              have HO3 : Hid ((w1.drewN nq).ownsRow w.heap.size 50 6 (.slice (some ⟨go, 0, none⟩) (ys.length + 1) cap) (ys.length + 1) (vPs (ys ++ [p]))) := HO1.out
              have HC3 : Hid (CellsAt (w1.drewN nq) b (off + k * 8) x.cells) := HC1.out
              have hblt3 : b < (w1.drewN nq).heap.size := hblt1
              have hfz3 : ∀ o, (w1.drewN nq).frozen? ⟨go, o, none⟩ = false := hfz1
              have hpc3 : CellsAt (w1.drewN nq) go (ys.length * 6) p.cells := HPC.out
              have hz4 : w.heap.size ≤ (w1.drewN nq).heap.size := hz3
              clear p0 p1 p2 p3 p4 p5 c0 c1 c2 c3 c4 c5 c6 c7 hfz1 hblt1
              generalize w1.drewN nq = W at *
              obtain ⟨p0, p1, p2, p3, p4, p5⟩ := hpc3.six
              obtain ⟨c0, c1, c2, c3, c4, c5, c6, c7⟩ := HC3.out.eight
              have hca := fun o => (HC3.out.alloc hblt3 o).eight
              have ca1 := fun o => (hca o).2.1
              have ca6 := fun o => (hca o).2.2.2.2.2.2.1
              clear hca hpc3
              have n0 : (kd == 1) = true := by have h1 := HH1.out; simpa using h1
              -- a pass more, behind (ys ++ [p]); HO3: the row of passes at the world here; HB3: what stands there; W.heap.size: the next block's number; x.d, x.c: direction and carrier as they are told
              go_wp2_with (at_builtin; refine wpList_append_own _ rfl _ _ 47 rfl w.heap.size 50 ip _ 6 48 Try.underlying47 hip hp0 hp1 hp2 rfl (by decide) _ _ _ rfl ((HO3.out.alloc _).alloc _) ⟨W.heap.size + 1, 0, none⟩ 1 1 (⟨kd, x.d, x.c, r, k, 1⟩ : Pas).cells rfl rfl ?c1 ?c2 ?c3 ?c4 ?c5 ?_)
              case c1 => exact new_cells' _ _ (by simp [World.drewN])
              case c2 => intro u hu; simp at hu; rcases hu with rfl | rfl | rfl | rfl | rfl | rfl <;> rfl
              case c3 => unfold maxLen; omega
              case c4 => omega
              case c5 => have := HB3.out.size; simp; omega
              intro v' w2 hown2 hgrow2 _
              have HB2 := Lib.hid ((((HB3.out.alloc HB3.out.size _)).alloc (by have := HB3.out.size; simp; omega) _).grown hgrow2 (by have := HB3.out.size; simp; omega) (fun g hg => (HO.out.lt g hg).1))
              have HO2 : Hid (w2.ownsRow w.heap.size 50 6 v' ((ys ++ [p]) ++ ([⟨kd, x.d, x.c, r, k, 1⟩] : List Pas)).length (vPs ((ys ++ [p]) ++ ([⟨kd, x.d, x.c, r, k, 1⟩] : List Pas)))) := by
                unfold Hid
                rw [vPs_snoc]
                simp only [List.length_append, List.length_singleton]
                try rw [HEQ.out]
                exact hown2
              clear hown2 hgrow2
              go_wp2
              exact ⟨⟨k + 1, r, pl, some pl, (ys ++ [p]) ++ ([⟨kd, x.d, x.c, r, k, 1⟩] : List Pas), by omega, by go_num, rfl, rfl, r0, r1, hpl.1, hpl.2, rfl, HO2.out, by simp; omega, HN.out, (fun q' hq' => ⟨by injection hq', ⟨_, _, rfl⟩⟩), cnt_push HCN.out rfl, HB2.out⟩, by simp [intOf]; omega⟩
            · skip
              -- the kind and the place are asked
              have HH1 := Lib.hid h1
              clear h1
              go_wp2_with fail
              refine HQK.out.mono ?_
              rintro e w0 ⟨rfl, rfl⟩
              go_wp2_with fail
              refine HQP.out.mono ?_
              rintro e w1 ⟨rfl, hb1⟩
              have HB1 := Lib.hid (HB.out.trans (hb1.mono hsz))
              have HO1 := Lib.hid (own_below HO.out hb1)
              have hz3 : w.heap.size ≤ w1.heap.size := HB1.out.size
              have HC1 := Lib.hid (HCW.out.below hb1 hblt)
              have hblt1 : b < w1.heap.size := Nat.lt_of_lt_of_le hblt hb1.size
              clear c0 c1 c2 c3 c4 c5 c6 c7 hb1
              obtain ⟨c0, c1, c2, c3, c4, c5, c6, c7⟩ := HC1.out.eight
              have hca := fun o => (HC1.out.alloc hblt1 o).eight
              have ca1 := fun o => (hca o).2.1
              have ca6 := fun o => (hca o).2.2.2.2.2.2.1
              clear hca
              -- does the pass go on?
              have hpc : CellsAt w1 go (ys.length * 6) p.cells := fun i u hu => by
                have hi : i < 6 := (List.getElem?_eq_some_iff.1 hu).1
                exact (own_cellx HO1.out (i := ys.length * 6 + i) (by rw [vPs_last _ _ hi]; exact hu)).1
              have hfz1 : ∀ o, w1.frozen? ⟨go, o, none⟩ = false := (own_cellx HO1.out (i := ys.length * 6 + 0) (by rw [vPs_last _ _ (by omega)]; rfl)).2.1
              obtain ⟨p0, p1, p2, p3, p4, p5⟩ := hpc.six
              have HPC := Lib.hid hpc
              clear hpc ca1 ca6
              go_wp2
              go_quiet (fail)
              have HB3 := Lib.hid (below_drewN HB1.out nq)
              have HO3 : Hid ((w1.drewN nq).ownsRow w.heap.size 50 6 (.slice (some ⟨go, 0, none⟩) (ys.length + 1) cap) (ys.length + 1) (vPs (ys ++ [p]))) := HO1.out
              have HC3 : Hid (CellsAt (w1.drewN nq) b (off + k * 8) x.cells) := HC1.out
              have hblt3 : b < (w1.drewN nq).heap.size := hblt1
              have hfz3 : ∀ o, (w1.drewN nq).frozen? ⟨go, o, none⟩ = false := hfz1
              have hpc3 : CellsAt (w1.drewN nq) go (ys.length * 6) p.cells := HPC.out
              have hz4 : w.heap.size ≤ (w1.drewN nq).heap.size := hz3
              clear p0 p1 p2 p3 p4 p5 c0 c1 c2 c3 c4 c5 c6 c7 hfz1 hblt1
              generalize w1.drewN nq = W at *
              obtain ⟨p0, p1, p2, p3, p4, p5⟩ := hpc3.six
              obtain ⟨c0, c1, c2, c3, c4, c5, c6, c7⟩ := HC3.out.eight
              have hca := fun o => (HC3.out.alloc hblt3 o).eight
              have ca1 := fun o => (hca o).2.1
              have ca6 := fun o => (hca o).2.2.2.2.2.2.1
              clear hca hpc3
              have n0 : (kd == 1) = false := by have h1 := HH1.out; simpa using h1
              have HEQ := Lib.hid (show (⟨kd, x.d, x.c, r, k, 1⟩ : Pas) = ⟨kd, 0, 0, r, k, 1⟩ by rw [(HG5.out HH1.out).1, (HG5.out HH1.out).2])
              -- a pass more, behind (ys ++ [p]); HO3: the row of passes at the world here; HB3: what stands there; W.heap.size: the next block's number; 0, 0: direction and carrier as they are told
              go_wp2_with (at_builtin; refine wpList_append_own _ rfl _ _ 47 rfl w.heap.size 50 ip _ 6 48 Try.underlying47 hip hp0 hp1 hp2 rfl (by decide) _ _ _ rfl ((HO3.out.alloc _).alloc _) ⟨W.heap.size + 1, 0, none⟩ 1 1 (⟨kd, 0, 0, r, k, 1⟩ : Pas).cells rfl rfl ?c1 ?c2 ?c3 ?c4 ?c5 ?_)
              case c1 => exact new_cells' _ _ (by simp [World.drewN])
              case c2 => intro u hu; simp at hu; rcases hu with rfl | rfl | rfl | rfl | rfl | rfl <;> rfl
              case c3 => unfold maxLen; omega
              case c4 => omega
              case c5 => have := HB3.out.size; simp; omega
              intro v' w2 hown2 hgrow2 _
              have HB2 := Lib.hid ((((HB3.out.alloc HB3.out.size _)).alloc (by have := HB3.out.size; simp; omega) _).grown hgrow2 (by have := HB3.out.size; simp; omega) (fun g hg => (HO.out.lt g hg).1))
              have HO2 : Hid (w2.ownsRow w.heap.size 50 6 v' ((ys ++ [p]) ++ ([⟨kd, x.d, x.c, r, k, 1⟩] : List Pas)).length (vPs ((ys ++ [p]) ++ ([⟨kd, x.d, x.c, r, k, 1⟩] : List Pas)))) := by
                unfold Hid
                rw [vPs_snoc]
                simp only [List.length_append, List.length_singleton]
                try rw [HEQ.out]
                exact hown2
              clear hown2 hgrow2
              go_wp2
              exact ⟨⟨k + 1, r, pl, some pl, (ys ++ [p]) ++ ([⟨kd, x.d, x.c, r, k, 1⟩] : List Pas), by omega, by go_num, rfl, rfl, r0, r1, hpl.1, hpl.2, rfl, HO2.out, by simp; omega, HN.out, (fun q' hq' => ⟨by injection hq', ⟨_, _, rfl⟩⟩), cnt_push HCN.out rfl, HB2.out⟩, by simp [intOf]; omega⟩
          have n1 : (p.k == kd) = true := by simpa using a1
          by_cases a2 : p.d = x.d
          case neg =>
            have n2 : (p.d == x.d) = false := by simpa using a2
            have HN := Lib.hid (HNF.out (by simp [psFit, a2]))
            clear a1 a2
            by_cases h1 : kd = 1
            · skip
              -- the kind and the place are asked
              have HH1 := Lib.hid h1
              clear h1
              go_wp2_with fail
              refine HQK.out.mono ?_
              rintro e w0 ⟨rfl, rfl⟩
              go_wp2_with fail
              refine HQP.out.mono ?_
              rintro e w1 ⟨rfl, hb1⟩
              have HB1 := Lib.hid (HB.out.trans (hb1.mono hsz))
              have HO1 := Lib.hid (own_below HO.out hb1)
              have hz3 : w.heap.size ≤ w1.heap.size := HB1.out.size
              have HC1 := Lib.hid (HCW.out.below hb1 hblt)
              have hblt1 : b < w1.heap.size := Nat.lt_of_lt_of_le hblt hb1.size
              clear c0 c1 c2 c3 c4 c5 c6 c7 hb1
              obtain ⟨c0, c1, c2, c3, c4, c5, c6, c7⟩ := HC1.out.eight
              have hca := fun o => (HC1.out.alloc hblt1 o).eight
              have ca1 := fun o => (hca o).2.1
              have ca6 := fun o => (hca o).2.2.2.2.2.2.1
              clear hca
              -- does the pass go on?
              have hpc : CellsAt w1 go (ys.length * 6) p.cells := fun i u hu => by
                have hi : i < 6 := (List.getElem?_eq_some_iff.1 hu).1
                exact (own_cellx HO1.out (i := ys.length * 6 + i) (by rw [vPs_last _ _ hi]; exact hu)).1
              have hfz1 : ∀ o, w1.frozen? ⟨go, o, none⟩ = false := (own_cellx HO1.out (i := ys.length * 6 + 0) (by rw [vPs_last _ _ (by omega)]; rfl)).2.1
              obtain ⟨p0, p1, p2, p3, p4, p5⟩ := hpc.six
              have HPC := Lib.hid hpc
              clear hpc ca1 ca6
              go_wp2
              go_quiet (fail)
              have HB3 := Lib.hid (below_drewN HB1.out nq)
              have HO3 : Hid ((w1.drewN nq).ownsRow w.heap.size 50 6 (.slice (some ⟨go, 0, none⟩) (ys.length + 1) cap) (ys.length + 1) (vPs (ys ++ [p]))) := HO1.out
              have HC3 : Hid (CellsAt (w1.drewN nq) b (off + k * 8) x.cells) := HC1.out
              have hblt3 : b < (w1.drewN nq).heap.size := hblt1
              have hfz3 : ∀ o, (w1.drewN nq).frozen? ⟨go, o, none⟩ = false := hfz1
              have hpc3 : CellsAt (w1.drewN nq) go (ys.length * 6) p.cells := HPC.out
              have hz4 : w.heap.size ≤ (w1.drewN nq).heap.size := hz3
              clear p0 p1 p2 p3 p4 p5 c0 c1 c2 c3 c4 c5 c6 c7 hfz1 hblt1
              generalize w1.drewN nq = W at *
              obtain ⟨p0, p1, p2, p3, p4, p5⟩ := hpc3.six
              obtain ⟨c0, c1, c2, c3, c4, c5, c6, c7⟩ := HC3.out.eight
              have hca := fun o => (HC3.out.alloc hblt3 o).eight
              have ca1 := fun o => (hca o).2.1
              have ca6 := fun o => (hca o).2.2.2.2.2.2.1
              clear hca hpc3
              have n0 : (kd == 1) = true := by have h1 := HH1.out; simpa using h1
              -- a pass more, behind (ys ++ [p]); HO3: the row of passes at the world here; HB3: what stands there; W.heap.size: the next block's number; x.d, x.c: direction and carrier as they are told
              go_wp2_with (at_builtin; refine wpList_append_own _ rfl _ _ 47 rfl w.heap.size 50 ip _ 6 48 Try.underlying47 hip hp0 hp1 hp2 rfl (by decide) _ _ _ rfl ((HO3.out.alloc _).alloc _) ⟨W.heap.size + 1, 0, none⟩ 1 1 (⟨kd, x.d, x.c, r, k, 1⟩ : Pas).cells rfl rfl ?c1 ?c2 ?c3 ?c4 ?c5 ?_)
              case c1 => exact new_cells' _ _ (by simp [World.drewN])
              case c2 => intro u hu; simp at hu; rcases hu with rfl | rfl | rfl | rfl | rfl | rfl <;> rfl
              case c3 => unfold maxLen; omega
              case c4 => omega
              case c5 => have := HB3.out.size; simp; omega
              intro v' w2 hown2 hgrow2 _
              have HB2 := Lib.hid ((((HB3.out.alloc HB3.out.size _)).alloc (by have := HB3.out.size; simp; omega) _).grown hgrow2 (by have := HB3.out.size; simp; omega) (fun g hg => (HO.out.lt g hg).1))
              have HO2 : Hid (w2.ownsRow w.heap.size 50 6 v' ((ys ++ [p]) ++ ([⟨kd, x.d, x.c, r, k, 1⟩] : List Pas)).length (vPs ((ys ++ [p]) ++ ([⟨kd, x.d, x.c, r, k, 1⟩] : List Pas)))) := by
                unfold Hid
                rw [vPs_snoc]
                simp only [List.length_append, List.length_singleton]
                try rw [HEQ.out]
                exact hown2
              clear hown2 hgrow2
              go_wp2
              exact ⟨⟨k + 1, r, pl, some pl, (ys ++ [p]) ++ ([⟨kd, x.d, x.c, r, k, 1⟩] : List Pas), by omega, by go_num, rfl, rfl, r0, r1, hpl.1, hpl.2, rfl, HO2.out, by simp; omega, HN.out, (fun q' hq' => ⟨by injection hq', ⟨_, _, rfl⟩⟩), cnt_push HCN.out rfl, HB2.out⟩, by simp [intOf]; omega⟩
            · skip
              -- the kind and the place are asked
              have HH1 := Lib.hid h1
              clear h1
              go_wp2_with fail
              refine HQK.out.mono ?_
              rintro e w0 ⟨rfl, rfl⟩
              go_wp2_with fail
              refine HQP.out.mono ?_
              rintro e w1 ⟨rfl, hb1⟩
              have HB1 := Lib.hid (HB.out.trans (hb1.mono hsz))
              have HO1 := Lib.hid (own_below HO.out hb1)
              have hz3 : w.heap.size ≤ w1.heap.size := HB1.out.size
              have HC1 := Lib.hid (HCW.out.below hb1 hblt)
              have hblt1 : b < w1.heap.size := Nat.lt_of_lt_of_le hblt hb1.size
              clear c0 c1 c2 c3 c4 c5 c6 c7 hb1
              obtain ⟨c0, c1, c2, c3, c4, c5, c6, c7⟩ := HC1.out.eight
              have hca := fun o => (HC1.out.alloc hblt1 o).eight
              have ca1 := fun o => (hca o).2.1
              have ca6 := fun o => (hca o).2.2.2.2.2.2.1
              clear hca
              -- does the pass go on?
              have hpc : CellsAt w1 go (ys.length * 6) p.cells := fun i u hu => by
                have hi : i < 6 := (List.getElem?_eq_some_iff.1 hu).1
                exact (own_cellx HO1.out (i := ys.length * 6 + i) (by rw [vPs_last _ _ hi]; exact hu)).1
              have hfz1 : ∀ o, w1.frozen? ⟨go, o, none⟩ = false := (own_cellx HO1.out (i := ys.length * 6 + 0) (by rw [vPs_last _ _ (by omega)]; rfl)).2.1
              obtain ⟨p0, p1, p2, p3, p4, p5⟩ := hpc.six
              have HPC := Lib.hid hpc
              clear hpc ca1 ca6
              go_wp2
              go_quiet (fail)
              have HB3 := Lib.hid (below_drewN HB1.out nq)
              have HO3 : Hid ((w1.drewN nq).ownsRow w.heap.size 50 6 (.slice (some ⟨go, 0, none⟩) (ys.length + 1) cap) (ys.length + 1) (vPs (ys ++ [p]))) := HO1.out
              have HC3 : Hid (CellsAt (w1.drewN nq) b (off + k * 8) x.cells) := HC1.out
              have hblt3 : b < (w1.drewN nq).heap.size := hblt1
              have hfz3 : ∀ o, (w1.drewN nq).frozen? ⟨go, o, none⟩ = false := hfz1
              have hpc3 : CellsAt (w1.drewN nq) go (ys.length * 6) p.cells := HPC.out
              have hz4 : w.heap.size ≤ (w1.drewN nq).heap.size := hz3
              clear p0 p1 p2 p3 p4 p5 c0 c1 c2 c3 c4 c5 c6 c7 hfz1 hblt1
              generalize w1.drewN nq = W at *
              obtain ⟨p0, p1, p2, p3, p4, p5⟩ := hpc3.six
              obtain ⟨c0, c1, c2, c3, c4, c5, c6, c7⟩ := HC3.out.eight
              have hca := fun o => (HC3.out.alloc hblt3 o).eight
              have ca1 := fun o => (hca o).2.1
              have ca6 := fun o => (hca o).2.2.2.2.2.2.1
              clear hca hpc3
              have n0 : (kd == 1) = false := by have h1 := HH1.out; simpa using h1
              have HEQ := Lib.hid (show (⟨kd, x.d, x.c, r, k, 1⟩ : Pas) = ⟨kd, 0, 0, r, k, 1⟩ by rw [(HG5.out HH1.out).1, (HG5.out HH1.out).2])
              -- a pass more, behind (ys ++ [p]); HO3: the row of passes at the world here; HB3: what stands there; W.heap.size: the next block's number; 0, 0: direction and carrier as they are told
              go_wp2_with (at_builtin; refine wpList_append_own _ rfl _ _ 47 rfl w.heap.size 50 ip _ 6 48 Try.underlying47 hip hp0 hp1 hp2 rfl (by decide) _ _ _ rfl ((HO3.out.alloc _).alloc _) ⟨W.heap.size + 1, 0, none⟩ 1 1 (⟨kd, 0, 0, r, k, 1⟩ : Pas).cells rfl rfl ?c1 ?c2 ?c3 ?c4 ?c5 ?_)
              case c1 => exact new_cells' _ _ (by simp [World.drewN])
              case c2 => intro u hu; simp at hu; rcases hu with rfl | rfl | rfl | rfl | rfl | rfl <;> rfl
              case c3 => unfold maxLen; omega
              case c4 => omega
              case c5 => have := HB3.out.size; simp; omega
              intro v' w2 hown2 hgrow2 _
              have HB2 := Lib.hid ((((HB3.out.alloc HB3.out.size _)).alloc (by have := HB3.out.size; simp; omega) _).grown hgrow2 (by have := HB3.out.size; simp; omega) (fun g hg => (HO.out.lt g hg).1))
              have HO2 : Hid (w2.ownsRow w.heap.size 50 6 v' ((ys ++ [p]) ++ ([⟨kd, x.d, x.c, r, k, 1⟩] : List Pas)).length (vPs ((ys ++ [p]) ++ ([⟨kd, x.d, x.c, r, k, 1⟩] : List Pas)))) := by
                unfold Hid
                rw [vPs_snoc]
                simp only [List.length_append, List.length_singleton]
                try rw [HEQ.out]
                exact hown2
              clear hown2 hgrow2
              go_wp2
              exact ⟨⟨k + 1, r, pl, some pl, (ys ++ [p]) ++ ([⟨kd, x.d, x.c, r, k, 1⟩] : List Pas), by omega, by go_num, rfl, rfl, r0, r1, hpl.1, hpl.2, rfl, HO2.out, by simp; omega, HN.out, (fun q' hq' => ⟨by injection hq', ⟨_, _, rfl⟩⟩), cnt_push HCN.out rfl, HB2.out⟩, by simp [intOf]; omega⟩
          have n2 : (p.d == x.d) = true := by simpa using a2
          by_cases a3 : p.c = x.c
          case neg =>
            have n3 : (p.c == x.c) = false := by simpa using a3
            have HN := Lib.hid (HNF.out (by simp [psFit, a3]))
            clear a1 a2 a3
            by_cases h1 : kd = 1
            · skip
              -- the kind and the place are asked
              have HH1 := Lib.hid h1
              clear h1
              go_wp2_with fail
              refine HQK.out.mono ?_
              rintro e w0 ⟨rfl, rfl⟩
              go_wp2_with fail
              refine HQP.out.mono ?_
              rintro e w1 ⟨rfl, hb1⟩
              have HB1 := Lib.hid (HB.out.trans (hb1.mono hsz))
              have HO1 := Lib.hid (own_below HO.out hb1)
              have hz3 : w.heap.size ≤ w1.heap.size := HB1.out.size
              have HC1 := Lib.hid (HCW.out.below hb1 hblt)
              have hblt1 : b < w1.heap.size := Nat.lt_of_lt_of_le hblt hb1.size
              clear c0 c1 c2 c3 c4 c5 c6 c7 hb1
              obtain ⟨c0, c1, c2, c3, c4, c5, c6, c7⟩ := HC1.out.eight
              have hca := fun o => (HC1.out.alloc hblt1 o).eight
              have ca1 := fun o => (hca o).2.1
              have ca6 := fun o => (hca o).2.2.2.2.2.2.1
              clear hca
              -- does the pass go on?
              have hpc : CellsAt w1 go (ys.length * 6) p.cells := fun i u hu => by
                have hi : i < 6 := (List.getElem?_eq_some_iff.1 hu).1
                exact (own_cellx HO1.out (i := ys.length * 6 + i) (by rw [vPs_last _ _ hi]; exact hu)).1
              have hfz1 : ∀ o, w1.frozen? ⟨go, o, none⟩ = false := (own_cellx HO1.out (i := ys.length * 6 + 0) (by rw [vPs_last _ _ (by omega)]; rfl)).2.1
              obtain ⟨p0, p1, p2, p3, p4, p5⟩ := hpc.six
              have HPC := Lib.hid hpc
              clear hpc ca1 ca6
              go_wp2
              go_quiet (fail)
              have HB3 := Lib.hid (below_drewN HB1.out nq)
              have HO3 : Hid ((w1.drewN nq).ownsRow w.heap.size 50 6 (.slice (some ⟨go, 0, none⟩) (ys.length + 1) cap) (ys.length + 1) (vPs (ys ++ [p]))) := HO1.out
              have HC3 : Hid (CellsAt (w1.drewN nq) b (off + k * 8) x.cells) := HC1.out
              have hblt3 : b < (w1.drewN nq).heap.size := hblt1
              have hfz3 : ∀ o, (w1.drewN nq).frozen? ⟨go, o, none⟩ = false := hfz1
              have hpc3 : CellsAt (w1.drewN nq) go (ys.length * 6) p.cells := HPC.out
              have hz4 : w.heap.size ≤ (w1.drewN nq).heap.size := hz3
              clear p0 p1 p2 p3 p4 p5 c0 c1 c2 c3 c4 c5 c6 c7 hfz1 hblt1
              generalize w1.drewN nq = W at *
              obtain ⟨p0, p1, p2, p3, p4, p5⟩ := hpc3.six
              obtain ⟨c0, c1, c2, c3, c4, c5, c6, c7⟩ := HC3.out.eight
              have hca := fun o => (HC3.out.alloc hblt3 o).eight
              have ca1 := fun o => (hca o).2.1
              have ca6 := fun o => (hca o).2.2.2.2.2.2.1
              clear hca hpc3
              have n0 : (kd == 1) = true := by have h1 := HH1.out; simpa using h1
              -- a pass more, behind (ys ++ [p]); HO3: the row of passes at the world here; HB3: what stands there; W.heap.size: the next block's number; x.d, x.c: direction and carrier as they are told
              go_wp2_with (at_builtin; refine wpList_append_own _ rfl _ _ 47 rfl w.heap.size 50 ip _ 6 48 Try.underlying47 hip hp0 hp1 hp2 rfl (by decide) _ _ _ rfl ((HO3.out.alloc _).alloc _) ⟨W.heap.size + 1, 0, none⟩ 1 1 (⟨kd, x.d, x.c, r, k, 1⟩ : Pas).cells rfl rfl ?c1 ?c2 ?c3 ?c4 ?c5 ?_)
              case c1 => exact new_cells' _ _ (by simp [World.drewN])
              case c2 => intro u hu; simp at hu; rcases hu with rfl | rfl | rfl | rfl | rfl | rfl <;> rfl
              case c3 => unfold maxLen; omega
              case c4 => omega
              case c5 => have := HB3.out.size; simp; omega
              intro v' w2 hown2 hgrow2 _
              have HB2 := Lib.hid ((((HB3.out.alloc HB3.out.size _)).alloc (by have := HB3.out.size; simp; omega) _).grown hgrow2 (by have := HB3.out.size; simp; omega) (fun g hg => (HO.out.lt g hg).1))
              have HO2 : Hid (w2.ownsRow w.heap.size 50 6 v' ((ys ++ [p]) ++ ([⟨kd, x.d, x.c, r, k, 1⟩] : List Pas)).length (vPs ((ys ++ [p]) ++ ([⟨kd, x.d, x.c, r, k, 1⟩] : List Pas)))) := by
                unfold Hid
                rw [vPs_snoc]
                simp only [List.length_append, List.length_singleton]
                try rw [HEQ.out]
                exact hown2
              clear hown2 hgrow2
              go_wp2
              exact ⟨⟨k + 1, r, pl, some pl, (ys ++ [p]) ++ ([⟨kd, x.d, x.c, r, k, 1⟩] : List Pas), by omega, by go_num, rfl, rfl, r0, r1, hpl.1, hpl.2, rfl, HO2.out, by simp; omega, HN.out, (fun q' hq' => ⟨by injection hq', ⟨_, _, rfl⟩⟩), cnt_push HCN.out rfl, HB2.out⟩, by simp [intOf]; omega⟩
            · skip
              -- the kind and the place are asked
              have HH1 := Lib.hid h1
              clear h1
              go_wp2_with fail
              refine HQK.out.mono ?_
              rintro e w0 ⟨rfl, rfl⟩
              go_wp2_with fail
              refine HQP.out.mono ?_
              rintro e w1 ⟨rfl, hb1⟩
              have HB1 := Lib.hid (HB.out.trans (hb1.mono hsz))
              have HO1 := Lib.hid (own_below HO.out hb1)
              have hz3 : w.heap.size ≤ w1.heap.size := HB1.out.size
              have HC1 := Lib.hid (HCW.out.below hb1 hblt)
              have hblt1 : b < w1.heap.size := Nat.lt_of_lt_of_le hblt hb1.size
              clear c0 c1 c2 c3 c4 c5 c6 c7 hb1
              obtain ⟨c0, c1, c2, c3, c4, c5, c6, c7⟩ := HC1.out.eight
              have hca := fun o => (HC1.out.alloc hblt1 o).eight
              have ca1 := fun o => (hca o).2.1
              have ca6 := fun o => (hca o).2.2.2.2.2.2.1
              clear hca
              -- does the pass go on?
              have hpc : CellsAt w1 go (ys.length * 6) p.cells := fun i u hu => by
                have hi : i < 6 := (List.getElem?_eq_some_iff.1 hu).1
                exact (own_cellx HO1.out (i := ys.length * 6 + i) (by rw [vPs_last _ _ hi]; exact hu)).1
              have hfz1 : ∀ o, w1.frozen? ⟨go, o, none⟩ = false := (own_cellx HO1.out (i := ys.length * 6 + 0) (by rw [vPs_last _ _ (by omega)]; rfl)).2.1
              obtain ⟨p0, p1, p2, p3, p4, p5⟩ := hpc.six
              have HPC := Lib.hid hpc
              clear hpc ca1 ca6
              go_wp2
              go_quiet (fail)
              have HB3 := Lib.hid (below_drewN HB1.out nq)
              have HO3 : Hid ((w1.drewN nq).ownsRow w.heap.size 50 6 (.slice (some ⟨go, 0, none⟩) (ys.length + 1) cap) (ys.length + 1) (vPs (ys ++ [p]))) := HO1.out
              have HC3 : Hid (CellsAt (w1.drewN nq) b (off + k * 8) x.cells) := HC1.out
              have hblt3 : b < (w1.drewN nq).heap.size := hblt1
              have hfz3 : ∀ o, (w1.drewN nq).frozen? ⟨go, o, none⟩ = false := hfz1
              have hpc3 : CellsAt (w1.drewN nq) go (ys.length * 6) p.cells := HPC.out
              have hz4 : w.heap.size ≤ (w1.drewN nq).heap.size := hz3
              clear p0 p1 p2 p3 p4 p5 c0 c1 c2 c3 c4 c5 c6 c7 hfz1 hblt1
              generalize w1.drewN nq = W at *
              obtain ⟨p0, p1, p2, p3, p4, p5⟩ := hpc3.six
              obtain ⟨c0, c1, c2, c3, c4, c5, c6, c7⟩ := HC3.out.eight
              have hca := fun o => (HC3.out.alloc hblt3 o).eight
              have ca1 := fun o => (hca o).2.1
              have ca6 := fun o => (hca o).2.2.2.2.2.2.1
              clear hca hpc3
              have n0 : (kd == 1) = false := by have h1 := HH1.out; simpa using h1
              have HEQ := Lib.hid (show (⟨kd, x.d, x.c, r, k, 1⟩ : Pas) = ⟨kd, 0, 0, r, k, 1⟩ by rw [(HG5.out HH1.out).1, (HG5.out HH1.out).2])
              -- a pass more, behind (ys ++ [p]); HO3: the row of passes at the world here; HB3: what stands there; W.heap.size: the next block's number; 0, 0: direction and carrier as they are told
              go_wp2_with (at_builtin; refine wpList_append_own _ rfl _ _ 47 rfl w.heap.size 50 ip _ 6 48 Try.underlying47 hip hp0 hp1 hp2 rfl (by decide) _ _ _ rfl ((HO3.out.alloc _).alloc _) ⟨W.heap.size + 1, 0, none⟩ 1 1 (⟨kd, 0, 0, r, k, 1⟩ : Pas).cells rfl rfl ?c1 ?c2 ?c3 ?c4 ?c5 ?_)
              case c1 => exact new_cells' _ _ (by simp [World.drewN])
              case c2 => intro u hu; simp at hu; rcases hu with rfl | rfl | rfl | rfl | rfl | rfl <;> rfl
              case c3 => unfold maxLen; omega
              case c4 => omega
              case c5 => have := HB3.out.size; simp; omega
              intro v' w2 hown2 hgrow2 _
              have HB2 := Lib.hid ((((HB3.out.alloc HB3.out.size _)).alloc (by have := HB3.out.size; simp; omega) _).grown hgrow2 (by have := HB3.out.size; simp; omega) (fun g hg => (HO.out.lt g hg).1))
              have HO2 : Hid (w2.ownsRow w.heap.size 50 6 v' ((ys ++ [p]) ++ ([⟨kd, x.d, x.c, r, k, 1⟩] : List Pas)).length (vPs ((ys ++ [p]) ++ ([⟨kd, x.d, x.c, r, k, 1⟩] : List Pas)))) := by
                unfold Hid
                rw [vPs_snoc]
                simp only [List.length_append, List.length_singleton]
                try rw [HEQ.out]
                exact hown2
              clear hown2 hgrow2
              go_wp2
              exact ⟨⟨k + 1, r, pl, some pl, (ys ++ [p]) ++ ([⟨kd, x.d, x.c, r, k, 1⟩] : List Pas), by omega, by go_num, rfl, rfl, r0, r1, hpl.1, hpl.2, rfl, HO2.out, by simp; omega, HN.out, (fun q' hq' => ⟨by injection hq', ⟨_, _, rfl⟩⟩), cnt_push HCN.out rfl, HB2.out⟩, by simp [intOf]; omega⟩
          have n3 : (p.c == x.c) = true := by simpa using a3
          by_cases h1 : kd = 1
          · have hdd : x.d = 1 ∨ x.d = -1 := HG4.out h1
            have hmul : IntKind.i64.wrap ((pl - z) * x.d) = (pl - z) * x.d := by
              rcases hdd with h | h <;> rw [h] <;> exact IntWalk.i64_in _ (by omega)
            by_cases a4 : 0 < (pl - z) * x.d
            · have HN := Lib.hid (HF.out (by simp [psFit, a1, a2, a3, a4]))
              have n0 : (kd == 1) = true := by simpa using h1
              clear a1 a2 a3 HNF hdd
              -- the kind and the place are asked
              have HH1 := Lib.hid h1
              clear h1
              go_wp2_with fail
              refine HQK.out.mono ?_
              rintro e w0 ⟨rfl, rfl⟩
              go_wp2_with fail
              refine HQP.out.mono ?_
              rintro e w1 ⟨rfl, hb1⟩
              have HB1 := Lib.hid (HB.out.trans (hb1.mono hsz))
              have HO1 := Lib.hid (own_below HO.out hb1)
              have hz3 : w.heap.size ≤ w1.heap.size := HB1.out.size
              have HC1 := Lib.hid (HCW.out.below hb1 hblt)
              have hblt1 : b < w1.heap.size := Nat.lt_of_lt_of_le hblt hb1.size
              clear c0 c1 c2 c3 c4 c5 c6 c7 hb1
              obtain ⟨c0, c1, c2, c3, c4, c5, c6, c7⟩ := HC1.out.eight
              have hca := fun o => (HC1.out.alloc hblt1 o).eight
              have ca1 := fun o => (hca o).2.1
              have ca6 := fun o => (hca o).2.2.2.2.2.2.1
              clear hca
              -- does the pass go on?
              have hpc : CellsAt w1 go (ys.length * 6) p.cells := fun i u hu => by
                have hi : i < 6 := (List.getElem?_eq_some_iff.1 hu).1
                exact (own_cellx HO1.out (i := ys.length * 6 + i) (by rw [vPs_last _ _ hi]; exact hu)).1
              have hfz1 : ∀ o, w1.frozen? ⟨go, o, none⟩ = false := (own_cellx HO1.out (i := ys.length * 6 + 0) (by rw [vPs_last _ _ (by omega)]; rfl)).2.1
              obtain ⟨p0, p1, p2, p3, p4, p5⟩ := hpc.six
              have HPC := Lib.hid hpc
              clear hpc ca1 ca6
              go_wp2
              go_quiet (fail)
              have HB3 := Lib.hid (below_drewN HB1.out nq)
              have HO3 : Hid ((w1.drewN nq).ownsRow w.heap.size 50 6 (.slice (some ⟨go, 0, none⟩) (ys.length + 1) cap) (ys.length + 1) (vPs (ys ++ [p]))) := HO1.out
              have HC3 : Hid (CellsAt (w1.drewN nq) b (off + k * 8) x.cells) := HC1.out
              have hblt3 : b < (w1.drewN nq).heap.size := hblt1
              have hfz3 : ∀ o, (w1.drewN nq).frozen? ⟨go, o, none⟩ = false := hfz1
              have hpc3 : CellsAt (w1.drewN nq) go (ys.length * 6) p.cells := HPC.out
              have hz4 : w.heap.size ≤ (w1.drewN nq).heap.size := hz3
              clear p0 p1 p2 p3 p4 p5 c0 c1 c2 c3 c4 c5 c6 c7 hfz1 hblt1
              generalize w1.drewN nq = W at *
              obtain ⟨p0, p1, p2, p3, p4, p5⟩ := hpc3.six
              obtain ⟨c0, c1, c2, c3, c4, c5, c6, c7⟩ := HC3.out.eight
              have hca := fun o => (HC3.out.alloc hblt3 o).eight
              have ca1 := fun o => (hca o).2.1
              have ca6 := fun o => (hca o).2.2.2.2.2.2.1
              clear hca hpc3
              have HO2 : Hid ((W.setCell ⟨go, ys.length * 6 + 5, none⟩ (.int .i64 (p.n + 1))).ownsRow w.heap.size 50 6 (.slice (some ⟨go, 0, none⟩) (ys.length + 1) cap) (ys ++ [bump p]).length (vPs (ys ++ [bump p]))) := by
                have h := own_setx (.int .i64 (p.n + 1)) HO3.out (i := ys.length * 6 + 5) (by omega)
                rw [vPs_bump] at h
                simp only [List.length_append, List.length_singleton] at h ⊢
                exact h
              go_wp2
              exact ⟨⟨k + 1, r, pl, some pl, ys ++ [bump p], by omega, by go_num, rfl, rfl, r0, r1, hpl.1, hpl.2, rfl, HO2.out, by simp; omega, HN.out, (fun q' hq' => ⟨by injection hq', ⟨ys, bump p, rfl⟩⟩), cnt_bump HCN.out, HB3.out.setCell hgB _⟩, by simp [intOf]; omega⟩
            · have HN := Lib.hid (HNF.out (by simp [psFit, h1, a4]))
              clear a1 a2 a3 HF hdd
              -- the kind and the place are asked
              have HH1 := Lib.hid h1
              clear h1
              go_wp2_with fail
              refine HQK.out.mono ?_
              rintro e w0 ⟨rfl, rfl⟩
              go_wp2_with fail
              refine HQP.out.mono ?_
              rintro e w1 ⟨rfl, hb1⟩
              have HB1 := Lib.hid (HB.out.trans (hb1.mono hsz))
              have HO1 := Lib.hid (own_below HO.out hb1)
              have hz3 : w.heap.size ≤ w1.heap.size := HB1.out.size
              have HC1 := Lib.hid (HCW.out.below hb1 hblt)
              have hblt1 : b < w1.heap.size := Nat.lt_of_lt_of_le hblt hb1.size
              clear c0 c1 c2 c3 c4 c5 c6 c7 hb1
              obtain ⟨c0, c1, c2, c3, c4, c5, c6, c7⟩ := HC1.out.eight
              have hca := fun o => (HC1.out.alloc hblt1 o).eight
              have ca1 := fun o => (hca o).2.1
              have ca6 := fun o => (hca o).2.2.2.2.2.2.1
              clear hca
              -- does the pass go on?
              have hpc : CellsAt w1 go (ys.length * 6) p.cells := fun i u hu => by
                have hi : i < 6 := (List.getElem?_eq_some_iff.1 hu).1
                exact (own_cellx HO1.out (i := ys.length * 6 + i) (by rw [vPs_last _ _ hi]; exact hu)).1
              have hfz1 : ∀ o, w1.frozen? ⟨go, o, none⟩ = false := (own_cellx HO1.out (i := ys.length * 6 + 0) (by rw [vPs_last _ _ (by omega)]; rfl)).2.1
              obtain ⟨p0, p1, p2, p3, p4, p5⟩ := hpc.six
              have HPC := Lib.hid hpc
              clear hpc ca1 ca6
              go_wp2
              go_quiet (fail)
              have HB3 := Lib.hid (below_drewN HB1.out nq)
              have HO3 : Hid ((w1.drewN nq).ownsRow w.heap.size 50 6 (.slice (some ⟨go, 0, none⟩) (ys.length + 1) cap) (ys.length + 1) (vPs (ys ++ [p]))) := HO1.out
              have HC3 : Hid (CellsAt (w1.drewN nq) b (off + k * 8) x.cells) := HC1.out
              have hblt3 : b < (w1.drewN nq).heap.size := hblt1
              have hfz3 : ∀ o, (w1.drewN nq).frozen? ⟨go, o, none⟩ = false := hfz1
              have hpc3 : CellsAt (w1.drewN nq) go (ys.length * 6) p.cells := HPC.out
              have hz4 : w.heap.size ≤ (w1.drewN nq).heap.size := hz3
              clear p0 p1 p2 p3 p4 p5 c0 c1 c2 c3 c4 c5 c6 c7 hfz1 hblt1
              generalize w1.drewN nq = W at *
              obtain ⟨p0, p1, p2, p3, p4, p5⟩ := hpc3.six
              obtain ⟨c0, c1, c2, c3, c4, c5, c6, c7⟩ := HC3.out.eight
              have hca := fun o => (HC3.out.alloc hblt3 o).eight
              have ca1 := fun o => (hca o).2.1
              have ca6 := fun o => (hca o).2.2.2.2.2.2.1
              clear hca hpc3
              have n0 : (kd == 1) = true := by have h1 := HH1.out; simpa using h1
              -- a pass more, behind (ys ++ [p]); HO3: the row of passes at the world here; HB3: what stands there; W.heap.size: the next block's number; x.d, x.c: direction and carrier as they are told
              go_wp2_with (at_builtin; refine wpList_append_own _ rfl _ _ 47 rfl w.heap.size 50 ip _ 6 48 Try.underlying47 hip hp0 hp1 hp2 rfl (by decide) _ _ _ rfl ((HO3.out.alloc _).alloc _) ⟨W.heap.size + 1, 0, none⟩ 1 1 (⟨kd, x.d, x.c, r, k, 1⟩ : Pas).cells rfl rfl ?c1 ?c2 ?c3 ?c4 ?c5 ?_)
              case c1 => exact new_cells' _ _ (by simp [World.drewN])
              case c2 => intro u hu; simp at hu; rcases hu with rfl | rfl | rfl | rfl | rfl | rfl <;> rfl
              case c3 => unfold maxLen; omega
              case c4 => omega
              case c5 => have := HB3.out.size; simp; omega
              intro v' w2 hown2 hgrow2 _
              have HB2 := Lib.hid ((((HB3.out.alloc HB3.out.size _)).alloc (by have := HB3.out.size; simp; omega) _).grown hgrow2 (by have := HB3.out.size; simp; omega) (fun g hg => (HO.out.lt g hg).1))
              have HO2 : Hid (w2.ownsRow w.heap.size 50 6 v' ((ys ++ [p]) ++ ([⟨kd, x.d, x.c, r, k, 1⟩] : List Pas)).length (vPs ((ys ++ [p]) ++ ([⟨kd, x.d, x.c, r, k, 1⟩] : List Pas)))) := by
                unfold Hid
                rw [vPs_snoc]
                simp only [List.length_append, List.length_singleton]
                try rw [HEQ.out]
                exact hown2
              clear hown2 hgrow2
              go_wp2
              exact ⟨⟨k + 1, r, pl, some pl, (ys ++ [p]) ++ ([⟨kd, x.d, x.c, r, k, 1⟩] : List Pas), by omega, by go_num, rfl, rfl, r0, r1, hpl.1, hpl.2, rfl, HO2.out, by simp; omega, HN.out, (fun q' hq' => ⟨by injection hq', ⟨_, _, rfl⟩⟩), cnt_push HCN.out rfl, HB2.out⟩, by simp [intOf]; omega⟩
          · have HN := Lib.hid (HF.out (by simp [psFit, a1, a2, a3, h1]))
            have n0 : (kd == 1) = false := by simpa using h1
            clear a1 a2 a3 HNF
            -- the kind and the place are asked
            have HH1 := Lib.hid h1
            clear h1
            go_wp2_with fail
            refine HQK.out.mono ?_
            rintro e w0 ⟨rfl, rfl⟩
            go_wp2_with fail
            refine HQP.out.mono ?_
            rintro e w1 ⟨rfl, hb1⟩
            have HB1 := Lib.hid (HB.out.trans (hb1.mono hsz))
            have HO1 := Lib.hid (own_below HO.out hb1)
            have hz3 : w.heap.size ≤ w1.heap.size := HB1.out.size
            have HC1 := Lib.hid (HCW.out.below hb1 hblt)
            have hblt1 : b < w1.heap.size := Nat.lt_of_lt_of_le hblt hb1.size
            clear c0 c1 c2 c3 c4 c5 c6 c7 hb1
            obtain ⟨c0, c1, c2, c3, c4, c5, c6, c7⟩ := HC1.out.eight
            have hca := fun o => (HC1.out.alloc hblt1 o).eight
            have ca1 := fun o => (hca o).2.1
            have ca6 := fun o => (hca o).2.2.2.2.2.2.1
            clear hca
            -- does the pass go on?
            have hpc : CellsAt w1 go (ys.length * 6) p.cells := fun i u hu => by
              have hi : i < 6 := (List.getElem?_eq_some_iff.1 hu).1
              exact (own_cellx HO1.out (i := ys.length * 6 + i) (by rw [vPs_last _ _ hi]; exact hu)).1
            have hfz1 : ∀ o, w1.frozen? ⟨go, o, none⟩ = false := (own_cellx HO1.out (i := ys.length * 6 + 0) (by rw [vPs_last _ _ (by omega)]; rfl)).2.1
            obtain ⟨p0, p1, p2, p3, p4, p5⟩ := hpc.six
            have HPC := Lib.hid hpc
            clear hpc ca1 ca6
            go_wp2
            go_quiet (fail)
            have HB3 := Lib.hid (below_drewN HB1.out nq)
            have HO3 : Hid ((w1.drewN nq).ownsRow w.heap.size 50 6 (.slice (some ⟨go, 0, none⟩) (ys.length + 1) cap) (ys.length + 1) (vPs (ys ++ [p]))) := HO1.out
            have HC3 : Hid (CellsAt (w1.drewN nq) b (off + k * 8) x.cells) := HC1.out
            have hblt3 : b < (w1.drewN nq).heap.size := hblt1
            have hfz3 : ∀ o, (w1.drewN nq).frozen? ⟨go, o, none⟩ = false := hfz1
            have hpc3 : CellsAt (w1.drewN nq) go (ys.length * 6) p.cells := HPC.out
            have hz4 : w.heap.size ≤ (w1.drewN nq).heap.size := hz3
            clear p0 p1 p2 p3 p4 p5 c0 c1 c2 c3 c4 c5 c6 c7 hfz1 hblt1
            generalize w1.drewN nq = W at *
            obtain ⟨p0, p1, p2, p3, p4, p5⟩ := hpc3.six
            obtain ⟨c0, c1, c2, c3, c4, c5, c6, c7⟩ := HC3.out.eight
            have hca := fun o => (HC3.out.alloc hblt3 o).eight
            have ca1 := fun o => (hca o).2.1
            have ca6 := fun o => (hca o).2.2.2.2.2.2.1
            clear hca hpc3
            have HO2 : Hid ((W.setCell ⟨go, ys.length * 6 + 5, none⟩ (.int .i64 (p.n + 1))).ownsRow w.heap.size 50 6 (.slice (some ⟨go, 0, none⟩) (ys.length + 1) cap) (ys ++ [bump p]).length (vPs (ys ++ [bump p]))) := by
              have h := own_setx (.int .i64 (p.n + 1)) HO3.out (i := ys.length * 6 + 5) (by omega)
              rw [vPs_bump] at h
              simp only [List.length_append, List.length_singleton] at h ⊢
              exact h
            go_wp2
            exact ⟨⟨k + 1, r, pl, some pl, ys ++ [bump p], by omega, by go_num, rfl, rfl, r0, r1, hpl.1, hpl.2, rfl, HO2.out, by simp; omega, HN.out, (fun q' hq' => ⟨by injection hq', ⟨ys, bump p, rfl⟩⟩), cnt_bump HCN.out, HB3.out.setCell hgB _⟩, by simp [intOf]; omega⟩
    · have HE := Lib.hid (ps_end HD.out (by have := HLN.out; omega))
      go_wp2
      go_ret
      exact ⟨_, rfl, by rw [HE.out]; exact OwC.of_own HO.out, HB.out⟩

end Go.Proofs.Ytolcgopfbbmjgaa
