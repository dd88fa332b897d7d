/-
  The passes of operations, of the program.
-/
import Derived.Test.YtolcgopfbbmjgaaPs
import Derived.Test.YtolcgopfbbmjgaaAppend
namespace Go.Proofs.Ytolcgopfbbmjgaa
set_option linter.unusedVariables false
set_option linter.unusedSimpArgs false
open Go.RowKit

theorem plc_rngP (b a r : Int) (h0 : 0 ≤ a) (h1 : a ≤ 23) (h2 : -3 ≤ r) (h3 : r ≤ 3) : -3 ≤ plc b a r ∧ plc b a r ≤ 26 := by unfold plc; split <;> omega
/-- What a passed pass counts. -/
theorem cnt_bump {ys : List Pas} {p : Pas} {k : Nat} (h : ∀ x ∈ ys ++ [p], 0 ≤ x.n ∧ x.n ≤ (k : Int)) : ∀ x ∈ ys ++ [bump p], 0 ≤ x.n ∧ x.n ≤ ((k + 1 : Nat) : Int) := fun x hx => by
  rcases List.mem_append.1 hx with h1 | h1
  · have := h x (List.mem_append_left _ h1); omega
  · simp at h1
    subst h1
    have := h p (by simp)
    simp only [bump]
    omega
theorem cnt_push {acc : List Pas} {p : Pas} {k : Nat} (h : ∀ x ∈ acc, 0 ≤ x.n ∧ x.n ≤ (k : Int)) (hp : p.n = 1) : ∀ x ∈ acc ++ [p], 0 ≤ x.n ∧ x.n ≤ ((k + 1 : Nat) : Int) := fun x hx => by
  rcases List.mem_append.1 hx with h1 | h1
  · have := h x h1; omega
  · simp at h1
    subst h1
    omega
theorem cnt_keep {acc : List Pas} {k : Nat} (h : ∀ x ∈ acc, 0 ≤ x.n ∧ x.n ≤ (k : Int)) : ∀ x ∈ acc, 0 ≤ x.n ∧ x.n ≤ ((k + 1 : Nat) : Int) := fun x hx => by have := h x hx; omega

set_option maxHeartbeats 8000000 in
set_option maxRecDepth 100000 in
theorem passes_any (n : Int) (v : Value) (l : List Opr) (w : World) (hl : RdO w w.heap.size v l) (hok : opsB n l = true) : Calls Try.prog 28 #[v] w (GivesOw w 50 6 (psL l).length (vPs (psL l))) := by
  obtain ⟨A, N, c, rfl, hln, hl', gl⟩ := hl
  have hN : N ≤ 1500 := by have := ops_len hok; have := hl'.out; omega
  have GL := Lib.hid gl
  have HLN := Lib.hid hl'.out
  have HOK := Lib.hid (fun (k : Nat) (x : Opr) (hx : l[k]? = some x) => okOp_rng (ops_at hok hx))
  obtain ⟨ip, hip, hp0, hp1, hp2⟩ := info_parts info_ps
  generalize hR : psL l = R
  have HR := Lib.hid (show R = psGo 0 0 none [] (l.drop 0) by rw [← hR]; rfl)
  clear gl hl' hok hR
  go_enter Try.func28, Try.ntmps28
  go_wp2
  go_loopw [3, 4, 5, 14] (fun out rk op i wr => ∃ (k : Nat) (r : Int) (lt : Option Int) (acc : List Pas), k ≤ N ∧ i = .int .i64 k ∧ rk = .int .i64 r ∧ -3 ≤ r ∧ r ≤ 3 ∧ op = .bool lt.isSome ∧ Hid (wr.ownsRow w.heap.size 50 6 out acc.length (vPs acc)) ∧ acc.length ≤ k ∧ Hid (R = psGo k r lt acc (l.drop k)) ∧
    Hid (∀ q, lt = some q → 0 < k ∧ (∃ ys p, acc = ys ++ [p]) ∧ ∃ y, l[k - 1]? = some y ∧ q = plc y.fb y.fa r ∧ 0 ≤ y.fa ∧ y.fa ≤ 23) ∧ Hid (∀ x ∈ acc, 0 ≤ x.n ∧ x.n ≤ (k : Int)) ∧ Hid (Below w.heap.size w wr)) (fun _ _ _ i _ => N - (intOf i).toNat)
  case atStart => exact ⟨0, 0, none, [], Nat.zero_le _, rfl, rfl, by omega, by omega, rfl, World.ownsRow_lit _ _ _ (Nat.le_refl _) (by unfold maxLen; omega) rfl, Nat.le_refl _, HR.out, (fun q hq => by cases hq), (fun x hx => by simp at hx), (Below.refl _ _).alloc (Nat.le_refl _) _⟩
  case round =>
    rename_i wr
    obtain ⟨k, r, lt, acc, hk, rfl, rfl, r0, r1, rfl, HO, hak, HD, HLT, HCN, HB⟩ := hrel
    have hsz := HB.out.size
    by_cases hlt : k < N
    · obtain ⟨b, off, x, rfl, hbb, hlk, hc⟩ := GL.out k hlt
      obtain ⟨g1, g2, g3, g4, g5⟩ := HOK.out k x hlk
      have hcw := hc.below HB.out hbb
      have hblt : b < wr.heap.size := Nat.lt_of_lt_of_le hbb hsz
      obtain ⟨c0, c1, c2, c3, c4, c5, c6, c7⟩ := hcw.eight
      have HLK := Lib.hid hlk
      have HBA := Lib.hid (show Below w.heap.size w (wr.alloc (.cells #[.int .i64 x.k, .int .i64 x.d, .int .i64 x.fb, .int .i64 x.fa, .int .i64 x.tb, .int .i64 x.ta, .int .i64 x.c, .int .i64 x.r] 55)) from HB.out.alloc hsz _)
      have HQK := Lib.hid (fun w' => passKind_any x.k w')
      by_cases h0 : psK x.k = 0
      · have HN := Lib.hid (ps_zero HD.out hlk h0)
        rw [h0] at HQK
        by_cases h7 : x.k = 7
        · rw [if_pos h7] at HN
          have h7' : (x.k == 7) = true := by simpa using h7
          clear hc hlk hcw h7 h0 g3 g4 g5
          go_wp2_with fail
          refine (HQK.out _).mono ?_
          rintro e w1 ⟨rfl, rfl⟩
          go_wp2
          exact ⟨⟨k + 1, x.r, none, acc, by omega, by go_num, rfl, g1, g2, rfl, HO.out.alloc _, by omega, HN.out, (fun q hq => by cases hq), cnt_keep HCN.out, HBA.out⟩, by simp [intOf]; omega⟩
        · rw [if_neg h7] at HN
          have h7' : (x.k == 7) = false := by simpa using h7
          clear hc hlk hcw h7 h0 g3 g4 g5
          go_wp2_with fail
          refine (HQK.out _).mono ?_
          rintro e w1 ⟨rfl, rfl⟩
          go_wp2
          exact ⟨⟨k + 1, r, none, acc, by omega, by go_num, rfl, r0, r1, rfl, HO.out.alloc _, by omega, HN.out, (fun q hq => by cases hq), cnt_keep HCN.out, HBA.out⟩, by simp [intOf]; omega⟩
      · obtain ⟨g6, g7⟩ := g3 h0
        have h7' : (x.k == 7) = false := by
          have : x.k ≠ 7 := fun e => h0 (by rw [e]; rfl)
          simpa using this
        have hkc := psK_cases x.k
        have HZ := Lib.hid h0
        have hz' : (psK x.k == 0) = false := by simpa using h0
        have HG4 := Lib.hid g4
        have HX := Lib.hid (show ∀ q, some (plc x.fb x.fa r) = some q → 0 < k + 1 ∧ ((∃ ys p, acc ++ [⟨psK x.k, x.d, x.c, r, k, 1⟩] = ys ++ [p]) ∧ ∃ y, l[k + 1 - 1]? = some y ∧ q = plc y.fb y.fa r ∧ 0 ≤ y.fa ∧ y.fa ≤ 23) from fun q hq => ⟨by omega, ⟨acc, _, rfl⟩, x, hlk, by injection hq with hq; exact hq.symm, g6, g7⟩)
        cases lt with
        | none =>
          have HN := Lib.hid (ps_none HD.out hlk h0)
          clear hc hlk hcw h0 g3 g4 g5
          generalize plc x.fb x.fa r = pl at *
          generalize psK x.k = kd at *
          go_wp2_with fail
          refine (HQK.out _).mono ?_
          rintro e w1 ⟨rfl, rfl⟩
          have HOA := Lib.hid (HO.out.alloc (.cells #[.int .i64 x.k, .int .i64 x.d, .int .i64 x.fb, .int .i64 x.fa, .int .i64 x.tb, .int .i64 x.ta, .int .i64 x.c, .int .i64 x.r] 55))
          -- a pass more, behind acc; HOA: the row of passes at the world here; HBA: what stands there; wr.heap.size + 1: the next block's number
          go_wp2_with (at_builtin; refine wpList_append_own _ rfl _ _ 47 rfl w.heap.size 50 ip _ 6 48 Try.underlying47 hip hp0 hp1 hp2 rfl (by decide) _ _ _ rfl (HOA.out.alloc _) ⟨wr.heap.size + 1, 0, none⟩ 1 1 (⟨kd, x.d, x.c, r, k, 1⟩ : Pas).cells rfl rfl ?c1 ?c2 ?c3 ?c4 ?c5 ?_)
          case c1 => exact new_cells' _ _ (by simp [World.drewN])
          case c2 => intro u hu; simp at hu; rcases hu with rfl | rfl | rfl | rfl | rfl | rfl <;> rfl
          case c3 => unfold maxLen; omega
          case c4 => omega
          case c5 => have := HBA.out.size; simp; omega
          intro v' w2 hown2 hgrow2 _
          have HB2 := Lib.hid ((HBA.out.alloc HBA.out.size _).grown hgrow2 (by have := HBA.out.size; simp; omega) (fun g hg => (HO.out.lt g hg).1))
          have HO2 : Hid (w2.ownsRow w.heap.size 50 6 v' (acc ++ ([⟨kd, x.d, x.c, r, k, 1⟩] : List Pas)).length (vPs (acc ++ ([⟨kd, x.d, x.c, r, k, 1⟩] : List Pas)))) := by unfold Hid; rw [vPs_snoc]; simp only [List.length_append, List.length_singleton]; exact hown2
          clear hown2 hgrow2
          go_wp2
          exact ⟨⟨k + 1, r, some pl, acc ++ ([⟨kd, x.d, x.c, r, k, 1⟩] : List Pas), by omega, by go_num, rfl, r0, r1, rfl, HO2.out, by simp; omega, HN.out, HX.out, cnt_push HCN.out rfl, HB2.out⟩, by simp [intOf]; omega⟩
        | some q =>
          obtain ⟨hk0, ⟨ys, p, rfl⟩, y, hy, hq, y0, y1⟩ := HLT.out q rfl
          have HF := Lib.hid (fun hf => ps_fit HD.out hlk h0 hf)
          have HNF := Lib.hid (fun hf => ps_not HD.out hlk h0 hf)
          obtain ⟨j, hj⟩ : ∃ j, k = j + 1 := ⟨k - 1, by omega⟩
          rw [show k - 1 = j by omega] at hy
          have hkj : (k : Int) - 1 = (j : Int) := by omega
          have hj0 : (0 : Int) ≤ (j : Int) := by omega
          have hj1 : (j : Int) < (N : Int) := by omega
          obtain ⟨b', off', y', e, hbb', hlk', hc'⟩ := GL.out j (by omega)
          injection e with e
          injection e with e1 e2
          subst e1 e2
          have hyy : y = y' := by rw [hy] at hlk'; injection hlk'
          subst hyy
          have hyl : (ys ++ [p]).length = ys.length + 1 := by simp
          have HO0 := HO.out
          rw [hyl] at HO0
          obtain ⟨go, cap, rfl, hgB, hgw, hcap, -⟩ := row_slice HO0 (by omega)
          have hpc : CellsAt wr go (ys.length * 6) p.cells := fun i u hu => by
            have hi : i < 6 := (List.getElem?_eq_some_iff.1 hu).1
            exact (own_cellx HO0 (i := ys.length * 6 + i) (by rw [vPs_last _ _ hi]; exact hu)).1
          have hfz := (own_cellx HO0 (i := ys.length * 6 + 0) (by rw [vPs_last _ _ (by omega)]; rfl)).2.1
          have hpn := HCN.out p (by simp)
          have hcbox : CellsAt (wr.alloc (.cells #[.int .i64 x.k, .int .i64 x.d, .int .i64 x.fb, .int .i64 x.fa, .int .i64 x.tb, .int .i64 x.ta, .int .i64 x.c, .int .i64 x.r] 55)) wr.heap.size 0 x.cells := CellsAt.of_alloc
          have hcy := (hc'.below HB.out hbb').alloc hblt (.cells #[.int .i64 x.k, .int .i64 x.d, .int .i64 x.fb, .int .i64 x.fa, .int .i64 x.tb, .int .i64 x.ta, .int .i64 x.c, .int .i64 x.r] 55)
          have hcp := hpc.alloc hgw (.cells #[.int .i64 x.k, .int .i64 x.d, .int .i64 x.fb, .int .i64 x.fa, .int .i64 x.tb, .int .i64 x.ta, .int .i64 x.c, .int .i64 x.r] 55)
          obtain ⟨p0, p1, p2, p3, p4, p5⟩ := hpc.six
          have HPC := Lib.hid hcp
          have HBOX := Lib.hid hcbox
          have HOA := Lib.hid (HO.out.alloc (.cells #[.int .i64 x.k, .int .i64 x.d, .int .i64 x.fb, .int .i64 x.fa, .int .i64 x.tb, .int .i64 x.ta, .int .i64 x.c, .int .i64 x.r] 55))
          rw [hyl] at HO HOA
          have hal : ys.length + 1 ≤ k := by rw [← hyl]; exact hak
          obtain ⟨e0, e1, e2, e3, e4, e5, e6, e7⟩ := hcbox.grow8
          obtain ⟨f0, f1, f2, f3, f4, f5, f6, f7⟩ := hcy.grow8
          have hpl := plc_rngP x.fb x.fa r g6 g7 r0 r1
          have hql := plc_rngP y.fb y.fa r y0 y1 r0 r1
          rw [← hq] at hql
          have HQ1 := Lib.hid (fun X => place_any x.fb x.fa r (by omega) (by omega) (by omega) (by omega) (wgrow (wr.alloc (.cells #[.int .i64 x.k, .int .i64 x.d, .int .i64 x.fb, .int .i64 x.fa, .int .i64 x.tb, .int .i64 x.ta, .int .i64 x.c, .int .i64 x.r] 55)) X))
          have HQ2 := Lib.hid (fun X => place_any y.fb y.fa r (by omega) (by omega) (by omega) (by omega) (wgrow (wr.alloc (.cells #[.int .i64 x.k, .int .i64 x.d, .int .i64 x.fb, .int .i64 x.fa, .int .i64 x.tb, .int .i64 x.ta, .int .i64 x.c, .int .i64 x.r] 55)) X))
          rw [← hq] at HQ2
          clear hak hyl HO0 hc' hlk' hy HLT hc hlk hcw hpc hcp hj hq hcbox hcy
          generalize plc x.fb x.fa r = pl at *
          generalize psK x.k = kd at *
          by_cases a1 : p.k = kd
          case neg =>
            have n1 : (p.k == kd) = false := by simpa using a1
            have HN := Lib.hid (HNF.out (by simp [psFit, a1]))
            clear a1
            by_cases h1 : kd = 1
            · skip
              -- the pass goes on no more
              -- region 14 where the kind is 1
              have n0 : (kd != 1) = false := by simpa using h1
              have hdd : x.d = 1 ∨ x.d = -1 := HG4.out h1
              have hmul : IntKind.i64.wrap ((pl - q) * x.d) = (pl - q) * x.d := by
                rcases hdd with h | h <;> rw [h] <;> exact IntWalk.i64_in _ (by omega)
              clear h1 hdd
              go_wp2_with fail
              refine (HQK.out _).mono ?_
              rintro e w1 ⟨rfl, rfl⟩
              go_wp2
              refine wp_region_grow (by kernel_rfl) (by kernel_rfl) ?_
              repeat (go_big_quiet_step ((first | (go_at_call_of 43 (Value.agg #[.int .i64 x.fb, .int .i64 x.fa]); exact calls_grow (HQ1.out _)) | (go_at_call_of 43 (Value.agg #[.int .i64 y.fb, .int .i64 y.fa]); exact calls_grow (HQ2.out _)))))
              refine wpQuiet_nil ?_
              intro w1 hb1
              -- region 15
              have HB1 := Lib.hid (HBA.out.trans (hb1.mono HBA.out.size))
              have HO1 := Lib.hid (own_below HOA.out hb1)
              clear p0 p1 p2 p3 p4 p5 e0 e1 e2 e3 e4 e5 e6 e7 f0 f1 f2 f3 f4 f5 f6 f7
              obtain ⟨p0, p1, p2, p3, p4, p5⟩ := (HPC.out.below hb1 (by simp; omega)).six
              obtain ⟨e0, e1, e2, e3, e4, e5, e6, e7⟩ := (HBOX.out.below hb1 (by simp)).eight
              have hfz1 : ∀ o, w1.frozen? ⟨go, o, none⟩ = false := (own_cellx HO1.out (i := ys.length * 6 + 0) (by rw [vPs_last _ _ (by omega)]; rfl)).2.1
              clear hb1 hfz
              go_wp2
              go_quiet (fail)
              have HB3 := Lib.hid (below_drewN HB1.out nq)
              have hz3 : w.heap.size ≤ w1.heap.size := HB1.out.size
              -- a pass more, behind (ys ++ [p]); HO1: the row of passes at the world here; HB3: what stands there; w1.heap.size: the next block's number
              go_wp2_with (at_builtin; refine wpList_append_own _ rfl _ _ 47 rfl w.heap.size 50 ip _ 6 48 Try.underlying47 hip hp0 hp1 hp2 rfl (by decide) _ _ _ rfl (HO1.out.alloc _) ⟨w1.heap.size, 0, none⟩ 1 1 (⟨kd, x.d, x.c, r, k, 1⟩ : Pas).cells rfl rfl ?c1 ?c2 ?c3 ?c4 ?c5 ?_)
              case c1 => exact new_cells' _ _ (by simp [World.drewN])
              case c2 => intro u hu; simp at hu; rcases hu with rfl | rfl | rfl | rfl | rfl | rfl <;> rfl
              case c3 => unfold maxLen; omega
              case c4 => omega
              case c5 => have := HB3.out.size; simp; omega
              intro v' w2 hown2 hgrow2 _
              have HB2 := Lib.hid ((HB3.out.alloc HB3.out.size _).grown hgrow2 (by have := HB3.out.size; simp; omega) (fun g hg => (HO.out.lt g hg).1))
              have HO2 : Hid (w2.ownsRow w.heap.size 50 6 v' ((ys ++ [p]) ++ ([⟨kd, x.d, x.c, r, k, 1⟩] : List Pas)).length (vPs ((ys ++ [p]) ++ ([⟨kd, x.d, x.c, r, k, 1⟩] : List Pas)))) := by unfold Hid; rw [vPs_snoc]; simp only [List.length_append, List.length_singleton]; exact hown2
              clear hown2 hgrow2
              go_wp2
              exact ⟨⟨k + 1, r, some pl, (ys ++ [p]) ++ ([⟨kd, x.d, x.c, r, k, 1⟩] : List Pas), by omega, by go_num, rfl, r0, r1, rfl, HO2.out, by simp; omega, HN.out, HX.out, cnt_push HCN.out rfl, HB2.out⟩, by simp [intOf]; omega⟩
            · skip
              -- the pass goes on no more
              -- region 14 where the kind is not 1
              have n0 : (kd != 1) = true := by simpa using h1
              clear h1
              go_wp2_with fail
              refine (HQK.out _).mono ?_
              rintro e w1 ⟨rfl, rfl⟩
              go_wp2
              go_quiet (fail)
              have hb1 := below_drewN (Below.refl (wr.alloc (.cells #[.int .i64 x.k, .int .i64 x.d, .int .i64 x.fb, .int .i64 x.fa, .int .i64 x.tb, .int .i64 x.ta, .int .i64 x.c, .int .i64 x.r] 55)).heap.size (wr.alloc (.cells #[.int .i64 x.k, .int .i64 x.d, .int .i64 x.fb, .int .i64 x.fa, .int .i64 x.tb, .int .i64 x.ta, .int .i64 x.c, .int .i64 x.r] 55))) nq
              generalize World.drewN _ _ = w1 at hb1 ⊢
              -- region 15
              have HB1 := Lib.hid (HBA.out.trans (hb1.mono HBA.out.size))
              have HO1 := Lib.hid (own_below HOA.out hb1)
              clear p0 p1 p2 p3 p4 p5 e0 e1 e2 e3 e4 e5 e6 e7 f0 f1 f2 f3 f4 f5 f6 f7
              obtain ⟨p0, p1, p2, p3, p4, p5⟩ := (HPC.out.below hb1 (by simp; omega)).six
              obtain ⟨e0, e1, e2, e3, e4, e5, e6, e7⟩ := (HBOX.out.below hb1 (by simp)).eight
              have hfz1 : ∀ o, w1.frozen? ⟨go, o, none⟩ = false := (own_cellx HO1.out (i := ys.length * 6 + 0) (by rw [vPs_last _ _ (by omega)]; rfl)).2.1
              clear hb1 hfz
              go_wp2
              go_quiet (fail)
              have HB3 := Lib.hid (below_drewN HB1.out nq)
              have hz3 : w.heap.size ≤ w1.heap.size := HB1.out.size
              -- a pass more, behind (ys ++ [p]); HO1: the row of passes at the world here; HB3: what stands there; w1.heap.size: the next block's number
              go_wp2_with (at_builtin; refine wpList_append_own _ rfl _ _ 47 rfl w.heap.size 50 ip _ 6 48 Try.underlying47 hip hp0 hp1 hp2 rfl (by decide) _ _ _ rfl (HO1.out.alloc _) ⟨w1.heap.size, 0, none⟩ 1 1 (⟨kd, x.d, x.c, r, k, 1⟩ : Pas).cells rfl rfl ?c1 ?c2 ?c3 ?c4 ?c5 ?_)
              case c1 => exact new_cells' _ _ (by simp [World.drewN])
              case c2 => intro u hu; simp at hu; rcases hu with rfl | rfl | rfl | rfl | rfl | rfl <;> rfl
              case c3 => unfold maxLen; omega
              case c4 => omega
              case c5 => have := HB3.out.size; simp; omega
              intro v' w2 hown2 hgrow2 _
              have HB2 := Lib.hid ((HB3.out.alloc HB3.out.size _).grown hgrow2 (by have := HB3.out.size; simp; omega) (fun g hg => (HO.out.lt g hg).1))
              have HO2 : Hid (w2.ownsRow w.heap.size 50 6 v' ((ys ++ [p]) ++ ([⟨kd, x.d, x.c, r, k, 1⟩] : List Pas)).length (vPs ((ys ++ [p]) ++ ([⟨kd, x.d, x.c, r, k, 1⟩] : List Pas)))) := by unfold Hid; rw [vPs_snoc]; simp only [List.length_append, List.length_singleton]; exact hown2
              clear hown2 hgrow2
              go_wp2
              exact ⟨⟨k + 1, r, some pl, (ys ++ [p]) ++ ([⟨kd, x.d, x.c, r, k, 1⟩] : List Pas), by omega, by go_num, rfl, r0, r1, rfl, HO2.out, by simp; omega, HN.out, HX.out, cnt_push HCN.out rfl, HB2.out⟩, by simp [intOf]; omega⟩
          have n1 : (p.k == kd) = true := by simpa using a1
          by_cases a2 : p.d = x.d
          case neg =>
            have n2 : (p.d == x.d) = false := by simpa using a2
            have HN := Lib.hid (HNF.out (by simp [psFit, a2]))
            clear a1 a2
            by_cases h1 : kd = 1
            · skip
              -- the pass goes on no more
              -- region 14 where the kind is 1
              have n0 : (kd != 1) = false := by simpa using h1
              have hdd : x.d = 1 ∨ x.d = -1 := HG4.out h1
              have hmul : IntKind.i64.wrap ((pl - q) * x.d) = (pl - q) * x.d := by
                rcases hdd with h | h <;> rw [h] <;> exact IntWalk.i64_in _ (by omega)
              clear h1 hdd
              go_wp2_with fail
              refine (HQK.out _).mono ?_
              rintro e w1 ⟨rfl, rfl⟩
              go_wp2
              refine wp_region_grow (by kernel_rfl) (by kernel_rfl) ?_
              repeat (go_big_quiet_step ((first | (go_at_call_of 43 (Value.agg #[.int .i64 x.fb, .int .i64 x.fa]); exact calls_grow (HQ1.out _)) | (go_at_call_of 43 (Value.agg #[.int .i64 y.fb, .int .i64 y.fa]); exact calls_grow (HQ2.out _)))))
              refine wpQuiet_nil ?_
              intro w1 hb1
              -- region 15
              have HB1 := Lib.hid (HBA.out.trans (hb1.mono HBA.out.size))
              have HO1 := Lib.hid (own_below HOA.out hb1)
              clear p0 p1 p2 p3 p4 p5 e0 e1 e2 e3 e4 e5 e6 e7 f0 f1 f2 f3 f4 f5 f6 f7
              obtain ⟨p0, p1, p2, p3, p4, p5⟩ := (HPC.out.below hb1 (by simp; omega)).six
              obtain ⟨e0, e1, e2, e3, e4, e5, e6, e7⟩ := (HBOX.out.below hb1 (by simp)).eight
              have hfz1 : ∀ o, w1.frozen? ⟨go, o, none⟩ = false := (own_cellx HO1.out (i := ys.length * 6 + 0) (by rw [vPs_last _ _ (by omega)]; rfl)).2.1
              clear hb1 hfz
              go_wp2
              go_quiet (fail)
              have HB3 := Lib.hid (below_drewN HB1.out nq)
              have hz3 : w.heap.size ≤ w1.heap.size := HB1.out.size
              -- a pass more, behind (ys ++ [p]); HO1: the row of passes at the world here; HB3: what stands there; w1.heap.size: the next block's number
              go_wp2_with (at_builtin; refine wpList_append_own _ rfl _ _ 47 rfl w.heap.size 50 ip _ 6 48 Try.underlying47 hip hp0 hp1 hp2 rfl (by decide) _ _ _ rfl (HO1.out.alloc _) ⟨w1.heap.size, 0, none⟩ 1 1 (⟨kd, x.d, x.c, r, k, 1⟩ : Pas).cells rfl rfl ?c1 ?c2 ?c3 ?c4 ?c5 ?_)
              case c1 => exact new_cells' _ _ (by simp [World.drewN])
              case c2 => intro u hu; simp at hu; rcases hu with rfl | rfl | rfl | rfl | rfl | rfl <;> rfl
              case c3 => unfold maxLen; omega
              case c4 => omega
              case c5 => have := HB3.out.size; simp; omega
              intro v' w2 hown2 hgrow2 _
              have HB2 := Lib.hid ((HB3.out.alloc HB3.out.size _).grown hgrow2 (by have := HB3.out.size; simp; omega) (fun g hg => (HO.out.lt g hg).1))
              have HO2 : Hid (w2.ownsRow w.heap.size 50 6 v' ((ys ++ [p]) ++ ([⟨kd, x.d, x.c, r, k, 1⟩] : List Pas)).length (vPs ((ys ++ [p]) ++ ([⟨kd, x.d, x.c, r, k, 1⟩] : List Pas)))) := by unfold Hid; rw [vPs_snoc]; simp only [List.length_append, List.length_singleton]; exact hown2
              clear hown2 hgrow2
              go_wp2
              exact ⟨⟨k + 1, r, some pl, (ys ++ [p]) ++ ([⟨kd, x.d, x.c, r, k, 1⟩] : List Pas), by omega, by go_num, rfl, r0, r1, rfl, HO2.out, by simp; omega, HN.out, HX.out, cnt_push HCN.out rfl, HB2.out⟩, by simp [intOf]; omega⟩
            · skip
              -- the pass goes on no more
              -- region 14 where the kind is not 1
              have n0 : (kd != 1) = true := by simpa using h1
              clear h1
              go_wp2_with fail
              refine (HQK.out _).mono ?_
              rintro e w1 ⟨rfl, rfl⟩
              go_wp2
              go_quiet (fail)
              have hb1 := below_drewN (Below.refl (wr.alloc (.cells #[.int .i64 x.k, .int .i64 x.d, .int .i64 x.fb, .int .i64 x.fa, .int .i64 x.tb, .int .i64 x.ta, .int .i64 x.c, .int .i64 x.r] 55)).heap.size (wr.alloc (.cells #[.int .i64 x.k, .int .i64 x.d, .int .i64 x.fb, .int .i64 x.fa, .int .i64 x.tb, .int .i64 x.ta, .int .i64 x.c, .int .i64 x.r] 55))) nq
              generalize World.drewN _ _ = w1 at hb1 ⊢
              -- region 15
              have HB1 := Lib.hid (HBA.out.trans (hb1.mono HBA.out.size))
              have HO1 := Lib.hid (own_below HOA.out hb1)
              clear p0 p1 p2 p3 p4 p5 e0 e1 e2 e3 e4 e5 e6 e7 f0 f1 f2 f3 f4 f5 f6 f7
              obtain ⟨p0, p1, p2, p3, p4, p5⟩ := (HPC.out.below hb1 (by simp; omega)).six
              obtain ⟨e0, e1, e2, e3, e4, e5, e6, e7⟩ := (HBOX.out.below hb1 (by simp)).eight
              have hfz1 : ∀ o, w1.frozen? ⟨go, o, none⟩ = false := (own_cellx HO1.out (i := ys.length * 6 + 0) (by rw [vPs_last _ _ (by omega)]; rfl)).2.1
              clear hb1 hfz
              go_wp2
              go_quiet (fail)
              have HB3 := Lib.hid (below_drewN HB1.out nq)
              have hz3 : w.heap.size ≤ w1.heap.size := HB1.out.size
              -- a pass more, behind (ys ++ [p]); HO1: the row of passes at the world here; HB3: what stands there; w1.heap.size: the next block's number
              go_wp2_with (at_builtin; refine wpList_append_own _ rfl _ _ 47 rfl w.heap.size 50 ip _ 6 48 Try.underlying47 hip hp0 hp1 hp2 rfl (by decide) _ _ _ rfl (HO1.out.alloc _) ⟨w1.heap.size, 0, none⟩ 1 1 (⟨kd, x.d, x.c, r, k, 1⟩ : Pas).cells rfl rfl ?c1 ?c2 ?c3 ?c4 ?c5 ?_)
              case c1 => exact new_cells' _ _ (by simp [World.drewN])
              case c2 => intro u hu; simp at hu; rcases hu with rfl | rfl | rfl | rfl | rfl | rfl <;> rfl
              case c3 => unfold maxLen; omega
              case c4 => omega
              case c5 => have := HB3.out.size; simp; omega
              intro v' w2 hown2 hgrow2 _
              have HB2 := Lib.hid ((HB3.out.alloc HB3.out.size _).grown hgrow2 (by have := HB3.out.size; simp; omega) (fun g hg => (HO.out.lt g hg).1))
              have HO2 : Hid (w2.ownsRow w.heap.size 50 6 v' ((ys ++ [p]) ++ ([⟨kd, x.d, x.c, r, k, 1⟩] : List Pas)).length (vPs ((ys ++ [p]) ++ ([⟨kd, x.d, x.c, r, k, 1⟩] : List Pas)))) := by unfold Hid; rw [vPs_snoc]; simp only [List.length_append, List.length_singleton]; exact hown2
              clear hown2 hgrow2
              go_wp2
              exact ⟨⟨k + 1, r, some pl, (ys ++ [p]) ++ ([⟨kd, x.d, x.c, r, k, 1⟩] : List Pas), by omega, by go_num, rfl, r0, r1, rfl, HO2.out, by simp; omega, HN.out, HX.out, cnt_push HCN.out rfl, HB2.out⟩, by simp [intOf]; omega⟩
          have n2 : (p.d == x.d) = true := by simpa using a2
          by_cases a3 : p.c = x.c
          case neg =>
            have n3 : (p.c == x.c) = false := by simpa using a3
            have HN := Lib.hid (HNF.out (by simp [psFit, a3]))
            clear a1 a2 a3
            by_cases h1 : kd = 1
            · skip
              -- the pass goes on no more
              -- region 14 where the kind is 1
              have n0 : (kd != 1) = false := by simpa using h1
              have hdd : x.d = 1 ∨ x.d = -1 := HG4.out h1
              have hmul : IntKind.i64.wrap ((pl - q) * x.d) = (pl - q) * x.d := by
                rcases hdd with h | h <;> rw [h] <;> exact IntWalk.i64_in _ (by omega)
              clear h1 hdd
              go_wp2_with fail
              refine (HQK.out _).mono ?_
              rintro e w1 ⟨rfl, rfl⟩
              go_wp2
              refine wp_region_grow (by kernel_rfl) (by kernel_rfl) ?_
              repeat (go_big_quiet_step ((first | (go_at_call_of 43 (Value.agg #[.int .i64 x.fb, .int .i64 x.fa]); exact calls_grow (HQ1.out _)) | (go_at_call_of 43 (Value.agg #[.int .i64 y.fb, .int .i64 y.fa]); exact calls_grow (HQ2.out _)))))
              refine wpQuiet_nil ?_
              intro w1 hb1
              -- region 15
              have HB1 := Lib.hid (HBA.out.trans (hb1.mono HBA.out.size))
              have HO1 := Lib.hid (own_below HOA.out hb1)
              clear p0 p1 p2 p3 p4 p5 e0 e1 e2 e3 e4 e5 e6 e7 f0 f1 f2 f3 f4 f5 f6 f7
              obtain ⟨p0, p1, p2, p3, p4, p5⟩ := (HPC.out.below hb1 (by simp; omega)).six
              obtain ⟨e0, e1, e2, e3, e4, e5, e6, e7⟩ := (HBOX.out.below hb1 (by simp)).eight
              have hfz1 : ∀ o, w1.frozen? ⟨go, o, none⟩ = false := (own_cellx HO1.out (i := ys.length * 6 + 0) (by rw [vPs_last _ _ (by omega)]; rfl)).2.1
              clear hb1 hfz
              go_wp2
              go_quiet (fail)
              have HB3 := Lib.hid (below_drewN HB1.out nq)
              have hz3 : w.heap.size ≤ w1.heap.size := HB1.out.size
              -- a pass more, behind (ys ++ [p]); HO1: the row of passes at the world here; HB3: what stands there; w1.heap.size: the next block's number
              go_wp2_with (at_builtin; refine wpList_append_own _ rfl _ _ 47 rfl w.heap.size 50 ip _ 6 48 Try.underlying47 hip hp0 hp1 hp2 rfl (by decide) _ _ _ rfl (HO1.out.alloc _) ⟨w1.heap.size, 0, none⟩ 1 1 (⟨kd, x.d, x.c, r, k, 1⟩ : Pas).cells rfl rfl ?c1 ?c2 ?c3 ?c4 ?c5 ?_)
              case c1 => exact new_cells' _ _ (by simp [World.drewN])
              case c2 => intro u hu; simp at hu; rcases hu with rfl | rfl | rfl | rfl | rfl | rfl <;> rfl
              case c3 => unfold maxLen; omega
              case c4 => omega
              case c5 => have := HB3.out.size; simp; omega
              intro v' w2 hown2 hgrow2 _
              have HB2 := Lib.hid ((HB3.out.alloc HB3.out.size _).grown hgrow2 (by have := HB3.out.size; simp; omega) (fun g hg => (HO.out.lt g hg).1))
              have HO2 : Hid (w2.ownsRow w.heap.size 50 6 v' ((ys ++ [p]) ++ ([⟨kd, x.d, x.c, r, k, 1⟩] : List Pas)).length (vPs ((ys ++ [p]) ++ ([⟨kd, x.d, x.c, r, k, 1⟩] : List Pas)))) := by unfold Hid; rw [vPs_snoc]; simp only [List.length_append, List.length_singleton]; exact hown2
              clear hown2 hgrow2
              go_wp2
              exact ⟨⟨k + 1, r, some pl, (ys ++ [p]) ++ ([⟨kd, x.d, x.c, r, k, 1⟩] : List Pas), by omega, by go_num, rfl, r0, r1, rfl, HO2.out, by simp; omega, HN.out, HX.out, cnt_push HCN.out rfl, HB2.out⟩, by simp [intOf]; omega⟩
            · skip
              -- the pass goes on no more
              -- region 14 where the kind is not 1
              have n0 : (kd != 1) = true := by simpa using h1
              clear h1
              go_wp2_with fail
              refine (HQK.out _).mono ?_
              rintro e w1 ⟨rfl, rfl⟩
              go_wp2
              go_quiet (fail)
              have hb1 := below_drewN (Below.refl (wr.alloc (.cells #[.int .i64 x.k, .int .i64 x.d, .int .i64 x.fb, .int .i64 x.fa, .int .i64 x.tb, .int .i64 x.ta, .int .i64 x.c, .int .i64 x.r] 55)).heap.size (wr.alloc (.cells #[.int .i64 x.k, .int .i64 x.d, .int .i64 x.fb, .int .i64 x.fa, .int .i64 x.tb, .int .i64 x.ta, .int .i64 x.c, .int .i64 x.r] 55))) nq
              generalize World.drewN _ _ = w1 at hb1 ⊢
              -- region 15
              have HB1 := Lib.hid (HBA.out.trans (hb1.mono HBA.out.size))
              have HO1 := Lib.hid (own_below HOA.out hb1)
              clear p0 p1 p2 p3 p4 p5 e0 e1 e2 e3 e4 e5 e6 e7 f0 f1 f2 f3 f4 f5 f6 f7
              obtain ⟨p0, p1, p2, p3, p4, p5⟩ := (HPC.out.below hb1 (by simp; omega)).six
              obtain ⟨e0, e1, e2, e3, e4, e5, e6, e7⟩ := (HBOX.out.below hb1 (by simp)).eight
              have hfz1 : ∀ o, w1.frozen? ⟨go, o, none⟩ = false := (own_cellx HO1.out (i := ys.length * 6 + 0) (by rw [vPs_last _ _ (by omega)]; rfl)).2.1
              clear hb1 hfz
              go_wp2
              go_quiet (fail)
              have HB3 := Lib.hid (below_drewN HB1.out nq)
              have hz3 : w.heap.size ≤ w1.heap.size := HB1.out.size
              -- a pass more, behind (ys ++ [p]); HO1: the row of passes at the world here; HB3: what stands there; w1.heap.size: the next block's number
              go_wp2_with (at_builtin; refine wpList_append_own _ rfl _ _ 47 rfl w.heap.size 50 ip _ 6 48 Try.underlying47 hip hp0 hp1 hp2 rfl (by decide) _ _ _ rfl (HO1.out.alloc _) ⟨w1.heap.size, 0, none⟩ 1 1 (⟨kd, x.d, x.c, r, k, 1⟩ : Pas).cells rfl rfl ?c1 ?c2 ?c3 ?c4 ?c5 ?_)
              case c1 => exact new_cells' _ _ (by simp [World.drewN])
              case c2 => intro u hu; simp at hu; rcases hu with rfl | rfl | rfl | rfl | rfl | rfl <;> rfl
              case c3 => unfold maxLen; omega
              case c4 => omega
              case c5 => have := HB3.out.size; simp; omega
              intro v' w2 hown2 hgrow2 _
              have HB2 := Lib.hid ((HB3.out.alloc HB3.out.size _).grown hgrow2 (by have := HB3.out.size; simp; omega) (fun g hg => (HO.out.lt g hg).1))
              have HO2 : Hid (w2.ownsRow w.heap.size 50 6 v' ((ys ++ [p]) ++ ([⟨kd, x.d, x.c, r, k, 1⟩] : List Pas)).length (vPs ((ys ++ [p]) ++ ([⟨kd, x.d, x.c, r, k, 1⟩] : List Pas)))) := by unfold Hid; rw [vPs_snoc]; simp only [List.length_append, List.length_singleton]; exact hown2
              clear hown2 hgrow2
              go_wp2
              exact ⟨⟨k + 1, r, some pl, (ys ++ [p]) ++ ([⟨kd, x.d, x.c, r, k, 1⟩] : List Pas), by omega, by go_num, rfl, r0, r1, rfl, HO2.out, by simp; omega, HN.out, HX.out, cnt_push HCN.out rfl, HB2.out⟩, by simp [intOf]; omega⟩
          have n3 : (p.c == x.c) = true := by simpa using a3
          by_cases h1 : kd = 1
          · have hd := g4 h1
            by_cases a4 : 0 < (pl - q) * x.d
            · have HN := Lib.hid (HF.out (by simp [psFit, a1, a2, a3, a4]))
              clear a1 a2 a3 HNF
              -- the pass goes on
              -- region 14 where the kind is 1
              have n0 : (kd != 1) = false := by simpa using h1
              have hdd : x.d = 1 ∨ x.d = -1 := HG4.out h1
              have hmul : IntKind.i64.wrap ((pl - q) * x.d) = (pl - q) * x.d := by
                rcases hdd with h | h <;> rw [h] <;> exact IntWalk.i64_in _ (by omega)
              clear h1 hdd
              go_wp2_with fail
              refine (HQK.out _).mono ?_
              rintro e w1 ⟨rfl, rfl⟩
              go_wp2
              refine wp_region_grow (by kernel_rfl) (by kernel_rfl) ?_
              repeat (go_big_quiet_step ((first | (go_at_call_of 43 (Value.agg #[.int .i64 x.fb, .int .i64 x.fa]); exact calls_grow (HQ1.out _)) | (go_at_call_of 43 (Value.agg #[.int .i64 y.fb, .int .i64 y.fa]); exact calls_grow (HQ2.out _)))))
              refine wpQuiet_nil ?_
              intro w1 hb1
              -- region 15
              have HB1 := Lib.hid (HBA.out.trans (hb1.mono HBA.out.size))
              have HO1 := Lib.hid (own_below HOA.out hb1)
              clear p0 p1 p2 p3 p4 p5 e0 e1 e2 e3 e4 e5 e6 e7 f0 f1 f2 f3 f4 f5 f6 f7
              obtain ⟨p0, p1, p2, p3, p4, p5⟩ := (HPC.out.below hb1 (by simp; omega)).six
              obtain ⟨e0, e1, e2, e3, e4, e5, e6, e7⟩ := (HBOX.out.below hb1 (by simp)).eight
              have hfz1 : ∀ o, w1.frozen? ⟨go, o, none⟩ = false := (own_cellx HO1.out (i := ys.length * 6 + 0) (by rw [vPs_last _ _ (by omega)]; rfl)).2.1
              clear hb1 hfz
              go_wp2
              go_quiet (fail)
              have HB3 := Lib.hid (below_drewN HB1.out nq)
              have hz3 : w.heap.size ≤ w1.heap.size := HB1.out.size
              have HO2 : Hid (((w1.drewN nq).setCell ⟨go, ys.length * 6 + 5, none⟩ (.int .i64 (p.n + 1))).ownsRow w.heap.size 50 6 (.slice (some ⟨go, 0, none⟩) (ys.length + 1) cap) (ys ++ [bump p]).length (vPs (ys ++ [bump p]))) := by
                have h := own_setx (.int .i64 (p.n + 1)) HO1.out (i := ys.length * 6 + 5) (by omega)
                rw [vPs_bump] at h
                simp only [List.length_append, List.length_singleton] at h ⊢
                exact h
              go_wp2
              exact ⟨⟨k + 1, r, some pl, ys ++ [bump p], by omega, by go_num, rfl, r0, r1, rfl, HO2.out, by simp; omega, HN.out, (fun q' hq' => ⟨by omega, ⟨ys, bump p, rfl⟩, (HX.out q' hq').2.2⟩), cnt_bump HCN.out, HB3.out.setCell hgB _⟩, by simp [intOf]; omega⟩
            · have HN := Lib.hid (HNF.out (by simp [psFit, h1, a4]))
              clear a1 a2 a3 HF
              -- the pass goes on no more
              -- region 14 where the kind is 1
              have n0 : (kd != 1) = false := by simpa using h1
              have hdd : x.d = 1 ∨ x.d = -1 := HG4.out h1
              have hmul : IntKind.i64.wrap ((pl - q) * x.d) = (pl - q) * x.d := by
                rcases hdd with h | h <;> rw [h] <;> exact IntWalk.i64_in _ (by omega)
              clear h1 hdd
              go_wp2_with fail
              refine (HQK.out _).mono ?_
              rintro e w1 ⟨rfl, rfl⟩
              go_wp2
              refine wp_region_grow (by kernel_rfl) (by kernel_rfl) ?_
              repeat (go_big_quiet_step ((first | (go_at_call_of 43 (Value.agg #[.int .i64 x.fb, .int .i64 x.fa]); exact calls_grow (HQ1.out _)) | (go_at_call_of 43 (Value.agg #[.int .i64 y.fb, .int .i64 y.fa]); exact calls_grow (HQ2.out _)))))
              refine wpQuiet_nil ?_
              intro w1 hb1
              -- region 15
              have HB1 := Lib.hid (HBA.out.trans (hb1.mono HBA.out.size))
              have HO1 := Lib.hid (own_below HOA.out hb1)
              clear p0 p1 p2 p3 p4 p5 e0 e1 e2 e3 e4 e5 e6 e7 f0 f1 f2 f3 f4 f5 f6 f7
              obtain ⟨p0, p1, p2, p3, p4, p5⟩ := (HPC.out.below hb1 (by simp; omega)).six
              obtain ⟨e0, e1, e2, e3, e4, e5, e6, e7⟩ := (HBOX.out.below hb1 (by simp)).eight
              have hfz1 : ∀ o, w1.frozen? ⟨go, o, none⟩ = false := (own_cellx HO1.out (i := ys.length * 6 + 0) (by rw [vPs_last _ _ (by omega)]; rfl)).2.1
              clear hb1 hfz
              go_wp2
              go_quiet (fail)
              have HB3 := Lib.hid (below_drewN HB1.out nq)
              have hz3 : w.heap.size ≤ w1.heap.size := HB1.out.size
              -- a pass more, behind (ys ++ [p]); HO1: the row of passes at the world here; HB3: what stands there; w1.heap.size: the next block's number
              go_wp2_with (at_builtin; refine wpList_append_own _ rfl _ _ 47 rfl w.heap.size 50 ip _ 6 48 Try.underlying47 hip hp0 hp1 hp2 rfl (by decide) _ _ _ rfl (HO1.out.alloc _) ⟨w1.heap.size, 0, none⟩ 1 1 (⟨kd, x.d, x.c, r, k, 1⟩ : Pas).cells rfl rfl ?c1 ?c2 ?c3 ?c4 ?c5 ?_)
              case c1 => exact new_cells' _ _ (by simp [World.drewN])
              case c2 => intro u hu; simp at hu; rcases hu with rfl | rfl | rfl | rfl | rfl | rfl <;> rfl
              case c3 => unfold maxLen; omega
              case c4 => omega
              case c5 => have := HB3.out.size; simp; omega
              intro v' w2 hown2 hgrow2 _
              have HB2 := Lib.hid ((HB3.out.alloc HB3.out.size _).grown hgrow2 (by have := HB3.out.size; simp; omega) (fun g hg => (HO.out.lt g hg).1))
              have HO2 : Hid (w2.ownsRow w.heap.size 50 6 v' ((ys ++ [p]) ++ ([⟨kd, x.d, x.c, r, k, 1⟩] : List Pas)).length (vPs ((ys ++ [p]) ++ ([⟨kd, x.d, x.c, r, k, 1⟩] : List Pas)))) := by unfold Hid; rw [vPs_snoc]; simp only [List.length_append, List.length_singleton]; exact hown2
              clear hown2 hgrow2
              go_wp2
              exact ⟨⟨k + 1, r, some pl, (ys ++ [p]) ++ ([⟨kd, x.d, x.c, r, k, 1⟩] : List Pas), by omega, by go_num, rfl, r0, r1, rfl, HO2.out, by simp; omega, HN.out, HX.out, cnt_push HCN.out rfl, HB2.out⟩, by simp [intOf]; omega⟩
          · have HN := Lib.hid (HF.out (by simp [psFit, a1, a2, a3, h1]))
            clear a1 a2 a3 HNF
            -- the pass goes on
            -- region 14 where the kind is not 1
            have n0 : (kd != 1) = true := by simpa using h1
            clear h1
            go_wp2_with fail
            refine (HQK.out _).mono ?_
            rintro e w1 ⟨rfl, rfl⟩
            go_wp2
            go_quiet (fail)
            have hb1 := below_drewN (Below.refl (wr.alloc (.cells #[.int .i64 x.k, .int .i64 x.d, .int .i64 x.fb, .int .i64 x.fa, .int .i64 x.tb, .int .i64 x.ta, .int .i64 x.c, .int .i64 x.r] 55)).heap.size (wr.alloc (.cells #[.int .i64 x.k, .int .i64 x.d, .int .i64 x.fb, .int .i64 x.fa, .int .i64 x.tb, .int .i64 x.ta, .int .i64 x.c, .int .i64 x.r] 55))) nq
            generalize World.drewN _ _ = w1 at hb1 ⊢
            -- region 15
            have HB1 := Lib.hid (HBA.out.trans (hb1.mono HBA.out.size))
            have HO1 := Lib.hid (own_below HOA.out hb1)
            clear p0 p1 p2 p3 p4 p5 e0 e1 e2 e3 e4 e5 e6 e7 f0 f1 f2 f3 f4 f5 f6 f7
            obtain ⟨p0, p1, p2, p3, p4, p5⟩ := (HPC.out.below hb1 (by simp; omega)).six
            obtain ⟨e0, e1, e2, e3, e4, e5, e6, e7⟩ := (HBOX.out.below hb1 (by simp)).eight
            have hfz1 : ∀ o, w1.frozen? ⟨go, o, none⟩ = false := (own_cellx HO1.out (i := ys.length * 6 + 0) (by rw [vPs_last _ _ (by omega)]; rfl)).2.1
            clear hb1 hfz
            go_wp2
            go_quiet (fail)
            have HB3 := Lib.hid (below_drewN HB1.out nq)
            have hz3 : w.heap.size ≤ w1.heap.size := HB1.out.size
            have HO2 : Hid (((w1.drewN nq).setCell ⟨go, ys.length * 6 + 5, none⟩ (.int .i64 (p.n + 1))).ownsRow w.heap.size 50 6 (.slice (some ⟨go, 0, none⟩) (ys.length + 1) cap) (ys ++ [bump p]).length (vPs (ys ++ [bump p]))) := by
              have h := own_setx (.int .i64 (p.n + 1)) HO1.out (i := ys.length * 6 + 5) (by omega)
              rw [vPs_bump] at h
              simp only [List.length_append, List.length_singleton] at h ⊢
              exact h
            go_wp2
            exact ⟨⟨k + 1, r, some pl, ys ++ [bump p], by omega, by go_num, rfl, r0, r1, rfl, HO2.out, by simp; omega, HN.out, (fun q' hq' => ⟨by omega, ⟨ys, bump p, rfl⟩, (HX.out q' hq').2.2⟩), cnt_bump HCN.out, HB3.out.setCell hgB _⟩, by simp [intOf]; omega⟩
    · have HE := Lib.hid (ps_end HD.out (by have := HLN.out; omega))
      go_wp2
      go_ret
      exact ⟨_, rfl, by rw [HE.out]; exact OwC.of_own HO.out, HB.out⟩

end Go.Proofs.Ytolcgopfbbmjgaa
