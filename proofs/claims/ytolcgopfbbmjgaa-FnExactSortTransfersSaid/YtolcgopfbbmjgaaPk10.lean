/-
  Texts joined: St6, St7.
-/
import Derived.Test.YtolcgopfbbmjgaaPk9
import Derived.Test.YtolcgopfbbmjgaaPk2
import Derived.Deep.DeepCutAuto
/-
  The reference's ordering of transfers.
-/
namespace Go.Proofs.Ytolcgopfbbmjgaa
set_option linter.unusedVariables false
set_option linter.unusedSimpArgs false
open Go.Sort Go.Shelf Go.RowKit Go.Lib

theorem sw_swap {w : World} {blk off m : Nat} {d : Array Opr} {os : Array Obj} (hblk : blk < w.heap.size) {i j : Nat} (hi : i < d.size) (hj : j < d.size) :
    ((SW w blk off m d os).setCells blk (off + i * 8) d[j]!.cells).setCells blk (off + j * 8) d[i]!.cells = SW w blk off m (swp d i j) os := by
  have h := swap_worldK Opr.cells 8 Opr.len w m 0 blk off d i j hi hj
  rw [show ∀ X : World, X.drewN 0 = X from fun _ => rfl, Nat.add_zero] at h
  show (World.setCells (World.setCells (grow (putRowK Opr.cells 8 (Sort.ahead w m) blk off d) os) blk (off + i * 8) d[j]!.cells) blk (off + j * 8) d[i]!.cells) = grow (putRowK Opr.cells 8 (Sort.ahead w m) blk off (swp d i j)) os
  have hb : blk < (putRowK Opr.cells 8 (Sort.ahead w m) blk off d).heap.size := by rw [size_putRowK]; exact hblk
  generalize putRowK Opr.cells 8 (Sort.ahead w m) blk off d = W at h hb ⊢
  rw [← h]
  generalize d[j]!.cells = u1
  generalize d[i]!.cells = u2
  rw [setCells_grow os blk u1 _ W hb, setCells_grow os blk u2 _ _ (by rw [size_setCells]; exact hb)]
theorem sw_box {w : World} {blk off m : Nat} {d : Array Opr} {os : Array Obj} (o : Obj) : (SW w blk off m d os).alloc o = SW w blk off m d (os ++ #[o]) := by
  rw [alloc_eq_grow]
  exact sortWorldK_grown_c Opr.cells 8 w blk off m 0 d os #[o]
/-- An element that has reached its place among sorted ones. -/
theorem insK_at {α : Type} {key : α → Int} {x : α} : ∀ {S : List α} {j : Nat}, Srt key S → j ≤ S.length → (∀ y ∈ S.drop j, key x < key y) → (j = 0 ∨ ∃ y, S[j - 1]? = some y ∧ key y ≤ key x) → insK key x S = S.take j ++ x :: S.drop j
  | [], j, _, hj, _, _ => by
    have : j = 0 := by simpa using hj
    subst this
    rfl
  | y :: t, 0, _, _, h, _ => by
    rw [insK, if_pos (h y (by simp))]
    rfl
  | y :: t, j + 1, hs, hj, h, hl => by
    have h2 := List.pairwise_cons.1 hs
    have hle : ¬ key x < key y := by
      rcases hl with h3 | ⟨z, hz, hzx⟩
      · omega
      · rw [Nat.add_sub_cancel] at hz
        cases j with
        | zero => simp at hz; subst hz; omega
        | succ j =>
          have := h2.1 z (List.mem_of_getElem? (i := j) (by simpa using hz))
          omega
    rw [insK, if_neg hle, insK_at (S := t) (j := j) h2.2 (by simpa using hj) (by simpa using h) ?_]
    · rfl
    · cases j with
      | zero => exact .inl rfl
      | succ j =>
        rcases hl with h3 | ⟨z, hz, hzx⟩
        · omega
        · exact .inr ⟨z, by simpa using hz, hzx⟩
theorem isK_next {α : Type} {key : α → Int} {s : List α} {i : Nat} {x : α} (h : s[i]? = some x) : isK key (s.take (i + 1)) = insK key x (isK key (s.take i)) := by
  unfold isK
  rw [List.take_add_one, h, List.foldl_append]
  rfl

theorem l07PlaceG_any (b a r : Int) (h0 : -100 ≤ a) (h1 : a ≤ 100) (h2 : -100 ≤ r) (h3 : r ≤ 100) (w : World) : Calls Try.prog 21 #[.agg #[.int .i64 b, .int .i64 a], .int .i64 r] w fun e w' => e = .returned (.int .i64 (plc b a r)) ∧ ∃ q os, w' = grow (w.drewN q) os := by
  unfold plc
  by_cases hb : b = 2
  · subst hb
    go_enter Try.func21, Try.ntmps21
    go_wp2
    go_ret
    exact ⟨ret_int (by simp), 0, _, by rw [alloc_eq_grow]; rfl⟩
  · have h2 : (b == 2) = false := by simpa using hb
    rw [if_neg hb]
    clear hb
    go_enter Try.func21, Try.ntmps21
    go_wp2
    go_ret
    exact ⟨rfl, 0, _, by rw [alloc_eq_grow]; rfl⟩

def srtC (l : List Opr) : Int := if opsB 24 l = true then 0 else 1
def srtR (l : List Opr) : List Opr := if opsB 24 l = true then srtT l else []
theorem srtR_len (l : List Opr) : (srtR l).length ≤ 1048576 := by
  unfold srtR
  split
  · rename_i h
    have := ops_len h
    rw [srt_len h]; omega
  · simp
theorem srt_bad {w w' : World} {l : List Opr} (h : opsB 24 l = false) (hb : Below w.heap.size w w') : GivesC w 55 8 (srtR l).length (vO (srtR l)) (srtC l) (.returned (.tuple #[.slice none 0 0, .int .i64 1])) w' := by
  rw [show srtR l = [] by simp [srtR, h], show srtC l = 1 by simp [srtC, h]]
  exact ⟨_, rfl, OwC.nil, hb⟩
theorem srt_yes {w w' : World} {l : List Opr} {v : Value} (h : opsB 24 l = true) (ho : OwC w' w.heap.size w'.heap.size 55 8 v (srtT l).length (vO (srtT l))) (hb : Below w.heap.size w w') : GivesC w 55 8 (srtR l).length (vO (srtR l)) (srtC l) (.returned (.tuple #[v, .int .i64 0])) w' := by
  rw [show srtR l = srtT l by simp [srtR, h], show srtC l = 0 by simp [srtC, h]]
  exact ⟨_, rfl, ho, hb⟩

set_option maxHeartbeats 4000000 in
set_option maxRecDepth 100000 in
theorem implSrt_any (v : Value) (l : List Opr) (w : World) (hl : RdO w w.heap.size v l) :
    Calls Try.prog 8 #[v] w (GivesC w 55 8 (srtR l).length (vO (srtR l)) (srtC l)) := by
  have HL := Lib.hid hl
  have HV := Lib.hid (areOps_any v l w hl)
  obtain ⟨A, N, c, rfl, hln, hl', gl⟩ := hl
  clear hl' gl
  cases ho : opsB 24 l
  · have HN := Lib.hid (fun w' hb => srt_bad (w := w) (w' := w') ho hb)
    rw [ho] at HV
    clear ho
    go_enter Try.func8, Try.ntmps8
    go_wp2_with fail
    refine HV.out.mono ?_
    rintro e w1 ⟨rfl, hb⟩
    have HB := Lib.hid hb
    clear hb
    go_wp2
    go_ret2
    exact HN.out _ HB.out
  · rw [ho] at HV
    have HQ := Lib.hid (fun w1 (hb : Below w.heap.size w w1) => sortT_any _ l w1 ((HL.out.below hb).more hb.size) ho)
    have HY := Lib.hid (fun w' v hw hb => srt_yes (w := w) (w' := w') (v := v) ho hw hb)
    clear ho
    go_enter Try.func8, Try.ntmps8
    go_wp2_with fail
    refine HV.out.mono ?_
    rintro e w1 ⟨rfl, hb⟩
    have HB := Lib.hid hb
    clear hb
    go_wp2_with fail
    refine (HQ.out _ HB.out).mono ?_
    rintro e w2 ⟨v2, rfl, hw, hb⟩
    obtain ⟨A2, c2, rfl, -⟩ := hw.cells
    have HW := Lib.hid (hw.wide HB.out.size (Nat.le_refl _))
    have HB2 := Lib.hid (HB.out.trans (hb.mono HB.out.size))
    clear hb hw
    go_wp2
    go_ret2
    exact HY.out _ _ HW.out HB2.out

end Go.Proofs.Ytolcgopfbbmjgaa

/-
  The reference's ordering of transfers: the walk.
-/
namespace Go.Proofs.Ytolcgopfbbmjgaa
set_option linter.unusedVariables false
set_option linter.unusedSimpArgs false
open Go.Sort Go.Shelf Go.RowKit Go.Lib

theorem keyP_eq (r : Int) (o : Opr) : keyP r o = plc o.fb o.fa r := rfl
theorem isK_one {α : Type} {key : α → Int} {s : List α} (h : 1 ≤ s.length) : isK key (s.take 1) ++ s.drop 1 = s := by
  cases s with
  | nil => simp at h
  | cons x s => simp [isK, insK]

theorem sw_far {w : World} {blk off m b o : Nat} {d : Array Opr} {os : Array Obj} {v : Value} (h : w.cell? ⟨b, o, none⟩ = some v) (hne : b ≠ blk) : (SW w blk off m d os).cell? ⟨b, o, none⟩ = some v := by
  have hlt := block_lt_of_cell h
  unfold SW sortWorldK
  rw [cell?_grow _ _ _ (by rw [size_putRowK]; exact hlt), cell?_putRowK_other Opr.cells 8 _ blk off d _ hne]
  exact h
theorem sw_grown (w : World) (blk off m n : Nat) (d : Array Opr) (os os' : Array Obj) : grow ((SW w blk off m d os).drewN n) os' = SW w blk off (m + n) d (os ++ os') := sortWorldK_grown_c Opr.cells 8 w blk off m n d os os'
theorem fa_rng {o : Opr} (h : okOp o = true) (hk : o.k = 4) : 0 ≤ o.fa ∧ o.fa ≤ 23 := (okOp_rng h).2.2.1 (by rw [hk]; decide)

set_option maxHeartbeats 8000000 in
set_option maxRecDepth 100000 in
theorem specSrt_any (v : Value) (l : List Opr) (w : World) (hl : RdO w w.heap.size v l) :
    Calls Try.prog 6 #[v] w (GivesC w 55 8 (srtR l).length (vO (srtR l)) (srtC l)) := by
  have mixed : Try.prog.follows Departure.mixedOrders = true := by kernel_rfl
  have hlen : opsB 24 l = true → l.length ≤ 1500 := ops_len
  have HL := Lib.hid hl
  have HV := Lib.hid (l09Ops_any v l w hl)
  cases hok : opsB 24 l
  · obtain ⟨A, N, c, rfl, hln, hl', gl⟩ := hl
    clear hl' gl hlen
    have HN := Lib.hid (fun w' hb => srt_bad (w := w) (w' := w') hok hb)
    rw [hok] at HV
    clear hok
    go_enter Try.func6, Try.ntmps6
    go_wp2_with fail
    refine HV.out.mono ?_
    rintro e w1 ⟨rfl, hb⟩
    have HB := Lib.hid hb
    clear hb
    go_wp2
    go_ret2
    exact HN.out _ HB.out
  · rw [hok] at HV
    have hlen := hlen hok
    have HPS := Lib.hid (fun (w1 : World) (hb : Below w.heap.size w w1) => l09Passes_any 24 v l w1 ((hl.below hb).more hb.size) hok)
    have HSL := Lib.hid (srt_len hok)
    have HSI := Lib.hid (fun (i : Nat) (p : Pas) (hp : (psL l)[i]? = some p) => step_i hok hp)
    have HE := Lib.hid (srtI_end l)
    have H0 := Lib.hid (show srtI l 0 = l from rfl)
    have HY := Lib.hid (fun w' v hw hb => srt_yes (w := w) (w' := w') (v := v) hok hw hb)
    obtain ⟨i0, hi, hz0, hz1, hz2⟩ := info_parts info_op
    have hl0 := hl
    obtain ⟨A, N, c, rfl, hln, hl', gl⟩ := hl
    obtain ⟨hr, hn⟩ := hl0.reads Opr.len (by omega)
    have HR := Lib.hid hr
    have HN := Lib.hid hn
    have hN : N ≤ 1500 := by omega
    clear gl hl0 hr hl' hok hn
    generalize hP : psL l = P at *
    go_enter Try.func6, Try.ntmps6
    go_wp2_with fail
    refine HV.out.mono ?_
    rintro e w1 ⟨rfl, hb1⟩
    have HB1 := Lib.hid hb1
    have HR1 := Lib.hid ((HR.out.below hb1).more hb1.size)
    have hs01 := hb1.size
    clear hb1
    go_wp2_with (at_builtin; refine wpList_append_any _ rfl (.tmp 15) (.tmp 16) _ rfl w1.heap.size 55 i0 _ 8 64 Try.underlying24 hi hz0 hz1 hz2 rfl (by decide) _ 0 [] rfl (World.ownsRow_lit _ _ _ (Nat.le_refl _) (by unfold maxLen; omega) rfl) w1.heap.size A N c (vO l) rfl (HR1.out.alloc (Nat.le_refl _) _) (vO_one l) (by unfold maxLen; omega) (by omega) (by simp) ?_)
    intro v1 w2 hown hg2 hat
    have HO2 := Lib.hid hown
    have HB2 := Lib.hid (show Below w.heap.size w w2 from (HB1.out.alloc hs01 _).grown hg2 (by simp; omega) (fun k hk => by
      have hk' : some w1.heap.size = some k := hk
      injection hk' with hk'
      omega))
    have hgsz := hg2.size
    clear hown hg2 hat
    go_wp2_with (go_at_call 19; refine (HPS.out _ HB2.out).mono ?_; rintro e w3 ⟨v3, rfl, ho3, hb3⟩; have HP3 := Lib.hid ho3; obtain ⟨A3, c3, rfl, hm3, hc3⟩ := ho3.cells)
    have HO3 := Lib.hid (own_below HO2.out hb3)
    have HB3 := Lib.hid (HB2.out.trans (hb3.mono HB2.out.size))
    have hs23 := hb3.size
    have hs02 := HB2.out.size
    have HV1 := Lib.hid (HO2.out.lt)
    clear hb3 hc3
    go_loopw [6] (fun i wr => ∃ k : Nat, k ≤ P.length ∧ i = .int .i64 k ∧ Hid (wr.ownsRow w1.heap.size 55 8 v1 N (vO (srtI l k))) ∧ Hid (OwC wr w2.heap.size w3.heap.size 50 6 (.slice A3 P.length c3) P.length (vPs P)) ∧ Hid (Below w.heap.size w wr) ∧ w3.heap.size ≤ wr.heap.size) (fun i _ => P.length - (intOf i).toNat)
    case atStart => exact ⟨0, Nat.zero_le _, rfl, by rw [H0.out]; exact HO3.out, HP3.out, HB3.out, Nat.le_refl _⟩
    case round =>
      rename_i wr
      obtain ⟨k, hk, rfl, HO, HP, HB, hsz⟩ := hrel
      by_cases hlt : k < P.length
      · obtain ⟨p, hpk⟩ : ∃ p, P[k]? = some p := ⟨_, List.getElem?_eq_getElem hlt⟩
        obtain ⟨X, s, Y, f, n, HST⟩ := HSI.out k p hpk
        have HST := Lib.hid HST
        have hll := HST.out.le
        have hn1 := HST.out.n1
        rw [HN.out] at hll
        obtain ⟨g, cap, rfl, hgB, hgw, hcap, -⟩ := row_slice HO.out (by omega)
        have hg1 : g < w2.heap.size := (HV1.out g rfl).2
        obtain ⟨A4, c4, hv4, -, hcc⟩ := HP.out.cells
        obtain ⟨gp, hA, hgp1, hgp2, -, hcx⟩ := hcc k hlt
        injection hv4 with e1 e2 e3
        subst e1 e3
        subst hA
        have hcp : CellsAt wr gp (k * 6) p.cells := fun j u hu => by
          have hj : j < 6 := (List.getElem?_eq_some_iff.1 hu).1
          exact hcx _ u (by omega) (by rw [vS_get Pas.len P k p hpk j hj]; exact hu)
        have hpf := HST.out.pf
        have hpn := HST.out.pn
        obtain ⟨pk, pd, pc, pr, pf, pn⟩ := p
        simp only at hpf hpn
        subst hpf hpn
        obtain ⟨c0, c1, c2', c3', c4, c5⟩ := hcp.six
        have HPK := Lib.hid hpk
        clear hpk hcx hcc hcp
        obtain ⟨en, hen⟩ : ∃ en : Nat, en = f + n := ⟨_, rfl⟩
        have hfn : (f : Int) + (n : Int) = (en : Int) := by omega
        have hen4 : en ≤ 1500 := by omega
        have hcapn : (en : Int) ≤ (cap : Int) := by omega
        have hfe : (f : Int) ≤ (en : Int) := by omega
        have hfne : ¬ cap = f := by omega
        have HEN := Lib.hid hen
        clear hen hll
        have hef : en - f = n := by have := HEN.out; omega
        have HX := Lib.hid HST.out.xl
        have HSLEN := Lib.hid HST.out.sl
        obtain ⟨W0, hW0⟩ : ∃ W0, W0 = wr.alloc (.cells #[.int .i64 pk, .int .i64 pd, .int .i64 pc, .int .i64 pr, .int .i64 (f : Int), .int .i64 (n : Int)] 50) := ⟨_, rfl⟩
        have HO0 := Lib.hid (show W0.ownsRow w1.heap.size 55 8 (.slice (some ⟨g, 0, none⟩) N cap) N (vO (X ++ (s ++ Y))) by rw [hW0, ← HST.out.out]; exact HO.out.alloc _)
        have HP0 := Lib.hid (show OwC W0 w2.heap.size w3.heap.size 50 6 (.slice (some ⟨gp, 0, none⟩) P.length c3) P.length (vPs P) by rw [hW0]; exact HP.out.below ((alloc_below _ _).mono hsz))
        have HB0 := Lib.hid (show Below w.heap.size w W0 by rw [hW0]; exact HB.out.alloc HB.out.size _)
        have hs0 : W0.heap.size = wr.heap.size + 1 := by rw [hW0]; simp
        have HBX := Lib.hid (show W0.cell? ⟨wr.heap.size, 3, none⟩ = some (.int .i64 pr) by
          have := box_at wr 50 [.int .i64 pk, .int .i64 pd, .int .i64 pc, .int .i64 pr, .int .i64 (f : Int), .int .i64 (n : Int)] 3 _ rfl
          rw [hW0]; exact this)
        have HW0 := Lib.hid hW0
        by_cases hk2 : pk = 2
        · subst hk2
          have hA := l09Apart_any _ s W0 (own_part HO0.out (cap - f) (by have := HSLEN.out; omega))
          rw [HX.out, HSLEN.out] at hA
          have HAS := Lib.hid hA
          clear hA
          by_cases hsep : s.Pairwise SepO
          · have HQ := Lib.hid (HST.out.few rfl hsep)
            have HNX := Lib.hid (show srtI l (k + 1) = X ++ (isK (keyP pr) s ++ Y) by rw [HST.out.next]; unfold nrmP; rw [if_pos ⟨rfl, hsep⟩])
            rw [decide_eq_true hsep] at HAS
            clear hsep hs0
            rw [hW0] at HAS
            clear hW0
            go_wp2_with (go_at_call 20; refine HAS.out.mono ?_; rintro e w4 ⟨rfl, hb4⟩)
            have hb4' : Below W0.heap.size W0 w4 := by rw [HW0.out]; exact hb4
            have hsW : W0.heap.size = wr.heap.size + 1 := by rw [HW0.out]; simp
            have HO4 := Lib.hid (own_below HO0.out hb4')
            have HP4 := Lib.hid (HP0.out.below (hb4'.mono (show w3.heap.size ≤ W0.heap.size by omega)))
            have HB4 := Lib.hid (HB0.out.trans (hb4'.mono HB0.out.size))
            have HBX4 := Lib.hid (show w4.cell? ⟨wr.heap.size, 3, none⟩ = some (.int .i64 pr) by rw [hb4'.cell (p := ⟨wr.heap.size, 3, none⟩) (by rw [hsW]; simp)]; exact HBX.out)
            have hs4 := hb4'.size
            have HZ := Lib.hid (show g < w2.heap.size ∧ w3.heap.size ≤ w4.heap.size ∧ wr.heap.size ≠ g from ⟨hg1, by omega, by omega⟩)
            have hn24 := HQ.out
            have HH := Lib.hid (show SwR w4 g (f * 8) s.toArray from ⟨by rw [← HX.out]; exact own_holds HO4.out, (HO4.out.lt g rfl).2, by have := HSLEN.out; simp; omega⟩)
            have HST0 := Lib.hid (show w4 = SW w4 g (f * 8) 0 s.toArray #[] from (sortWorldK_start Opr.cells 8 w4 g (f * 8) s.toArray HH.out.holds).symm)
            have HI1 := Lib.hid (show isK (keyP pr) (s.take 1) ++ s.drop 1 = s from isK_one (by have := HSLEN.out; omega))
            have HRK := Lib.hid (show -3 ≤ pr ∧ pr ≤ 3 from HST.out.rk)
            have HOK := Lib.hid (fun o ho => fa_rng (HST.out.ok o ho) (HST.out.k4 rfl o ho))
            clear hb4 hb4' hsW hs4 HAS hfn hen4 hcapn hfe hfne hef c0 c1 c2' c3' c4 c5
            go_loopw [9] (fun s9 wr2 => ∃ (W2 : World) (i m1 : Nat) (d1 : Array Opr) (o1 : Array Obj), W2 = wr2 ∧ W2 = SW w4 g (f * 8) m1 d1 o1 ∧ s9 = .int .i64 (i : Int) ∧ 1 ≤ i ∧ i ≤ n ∧ Hid (d1.size = n) ∧ Hid (d1.toList = isK (keyP pr) (s.take i) ++ s.drop i)) (fun s9 _ => n - (intOf s9).toNat)
            case atStart => exact ⟨w4, 1, 0, s.toArray, #[], rfl, HST0.out, rfl, Nat.le_refl _, hn1, by unfold Hid; simpa using HSLEN.out, by unfold Hid; rw [HI1.out]⟩
            case round =>
              obtain ⟨W2, i, m1, d1, o1, hW2, hw2, rfl, hi1, hin, HD1, HL1⟩ := hrel
              subst hW2
              have HW2 := Lib.hid hw2
              clear hw2
              by_cases hilt : i < n
              · obtain ⟨x, hx⟩ : ∃ x, s[i]? = some x := ⟨_, List.getElem?_eq_getElem (by have := HSLEN.out; omega)⟩
                obtain ⟨S, hS⟩ : ∃ S, S = isK (keyP pr) (s.take i) := ⟨_, rfl⟩
                have HSS := Lib.hid (show Srt (keyP pr) S ∧ S.length = i ∧ ∀ y ∈ S, 0 ≤ y.fa ∧ y.fa ≤ 23 by
                  rw [hS]
                  refine ⟨(isK_stb _).1, by rw [isK_len, List.length_take]; have := HSLEN.out; omega, fun y hy => HOK.out y (List.mem_of_mem_take ((isK_perm _).mem_iff.1 hy))⟩)
                have HNXI := Lib.hid (show isK (keyP pr) (s.take (i + 1)) = insK (keyP pr) x S by rw [hS]; exact isK_next hx)
                have hSt : S.take i = S := List.take_of_length_le (by rw [HSS.out.2.1]; exact Nat.le_refl _)
                have hSd : S.drop i = [] := List.drop_of_length_le (by rw [HSS.out.2.1]; exact Nat.le_refl _)
                have HLS := Lib.hid (show d1.toList = [] ++ (S.take i ++ (x :: (S.drop i ++ s.drop (i + 1)))) by
                  rw [HL1.out, ← hS, hSt, hSd, drop_of_get hx]; simp)
                have HSD := Lib.hid hSd
                clear hSt hSd
                have HXR := Lib.hid (HOK.out x (List.mem_of_getElem? hx))
                have HS := Lib.hid hS
                have hiz : (i : Int) < (n : Int) := by omega
                clear hS hx
                go_wp2
                go_loopw [10] (fun s10 wr3 => ∃ (W3 : World) (j m2 : Nat) (d2 : Array Opr) (o2 : Array Obj), W3 = wr3 ∧ W3 = SW w4 g (f * 8) m2 d2 o2 ∧ s10 = .int .i64 (j : Int) ∧ j ≤ i ∧ Hid (d2.size = n) ∧ Hid (d2.toList = [] ++ (S.take j ++ (x :: (S.drop j ++ s.drop (i + 1))))) ∧ Hid (∀ y ∈ S.drop j, keyP pr x < keyP pr y)) (fun s10 _ => (intOf s10).toNat)
                case atStart => exact ⟨_, i, m1, d1, o1, rfl, HW2.out, rfl, Nat.le_refl _, HD1.out, HLS.out, by unfold Hid; rw [HSD.out]; simp⟩
                case round =>
                  obtain ⟨W3, j, m2, d2, o2, hW3, hw3, rfl, hji, HD2, HL2, HG2⟩ := hrel
                  subst hW3
                  have HW3 := Lib.hid hw3
                  have HNO := Lib.hid (show (j = 0 ∨ ∃ y, S[j - 1]? = some y ∧ keyP pr y ≤ keyP pr x) → d2.toList = isK (keyP pr) (s.take (i + 1)) ++ s.drop (i + 1) from fun h => by
                    rw [HL2.out, HNXI.out, insK_at HSS.out.1 (by rw [HSS.out.2.1]; exact hji) HG2.out h]; simp)
                  by_cases hj0 : 0 < j
                  · obtain ⟨q, hq⟩ : ∃ q : Nat, j = q + 1 := ⟨j - 1, by omega⟩
                    have hjz : (0 : Int) < (j : Int) := by omega
                    have hjq : (j : Int) - 1 = (q : Int) := by omega
                    have hwq : IntKind.i64.wrap ((j : Int) - 1) = (q : Int) := by rw [IntWalk.i64_in _ (by omega)]; omega
                    have hwqq : IntKind.i64.wrap (q : Int) = (q : Int) := by rw [IntWalk.i64_in _ (by omega)]
                    have hjn : (j : Int) < (n : Int) := by omega
                    have hqn : (q : Int) < (n : Int) := by omega
                    have hSl := HSS.out.2.1
                    obtain ⟨y, hy⟩ : ∃ y, S[q]? = some y := ⟨_, List.getElem?_eq_getElem (by omega)⟩
                    have hds := HD2.out
                    have hdj : d2[j]! = x := by
                      have := at_part (A := S.take j) (R := [x]) (Y := S.drop j ++ s.drop (i + 1)) (d := d2) (t := 0) (i := j) (by rw [HL2.out]; simp) (by simp) (by rw [List.length_take]; omega)
                      simp at this; exact this.symm
                    have hdq : d2[q]! = y := by
                      have := at_part (A := []) (R := S.take j) (Y := x :: (S.drop j ++ s.drop (i + 1))) (d := d2) (t := q) (i := q) (by rw [HL2.out]) (by rw [List.length_take]; omega) (by simp)
                      rw [List.getElem?_take_of_lt (by omega), hy] at this
                      injection this with this; exact this.symm
                    have HDJ := Lib.hid (show d2[j]! = x ∧ d2[q]! = y ∧ S[q]? = some y ∧ j = q + 1 from ⟨hdj, hdq, hy, hq⟩)
                    have hcx : ∀ n' os', CellsAt (grow (W3.drewN n') os') g (f * 8 + j * 8) x.cells := fun n' os' => by
                      rw [hw3, sw_grown, ← hdj]
                      exact HH.out.cells _ d2 _ (by rw [hds]; simpa using HSLEN.out.symm) (by omega)
                    have hcy : ∀ n' os', CellsAt (grow (W3.drewN n') os') g (f * 8 + q * 8) y.cells := fun n' os' => by
                      rw [hw3, sw_grown, ← hdq]
                      exact HH.out.cells _ d2 _ (by rw [hds]; simpa using HSLEN.out.symm) (by omega)
                    have p3 : ∀ n' os', (grow (W3.drewN n') os').cell? ⟨wr.heap.size, 3, none⟩ = some (.int .i64 pr) := fun n' os' => by
                      rw [hw3, sw_grown]
                      exact sw_far HBX4.out HZ.out.2.2
                    have x2 := fun n' os' => (hcx n' os').eight.2.2.1
                    have x3 := fun n' os' => (hcx n' os').eight.2.2.2.1
                    have y2 := fun n' os' => (hcy n' os').eight.2.2.1
                    have y3 := fun n' os' => (hcy n' os').eight.2.2.2.1
                    have hyr := HSS.out.2.2 y (List.mem_of_getElem? hy)
                    have hxr := HXR.out
                    have hrk := HRK.out
                    have HPX := Lib.hid (fun W => l07PlaceG_any x.fb x.fa pr (by omega) (by omega) (by omega) (by omega) W)
                    have HPY := Lib.hid (fun W => l07PlaceG_any y.fb y.fa pr (by omega) (by omega) (by omega) (by omega) W)
                    have HCX := Lib.hid hcx
                    have HCY := Lib.hid hcy
                    have HNO2 := Lib.hid (show ¬ plc x.fb x.fa pr < plc y.fb y.fa pr → d2.toList = isK (keyP pr) (s.take (i + 1)) ++ s.drop (i + 1) from fun h => HNO.out (.inr ⟨y, by rw [hq, Nat.add_sub_cancel]; exact hy, by rw [keyP_eq, keyP_eq]; omega⟩))
                    have HGN := Lib.hid (show plc x.fb x.fa pr < plc y.fb y.fa pr → ∀ z ∈ S.drop q, keyP pr x < keyP pr z from fun h z hz => by
                      rw [drop_of_get hy] at hz
                      rcases List.mem_cons.1 hz with e | hz
                      · rw [e]; exact h
                      · exact HG2.out z (by rw [hq]; exact hz))
                    clear hw3 hdj hdq hy hcx hcy hds hSl hyr hxr hrk hq
                    generalize hpx : plc x.fb x.fa pr = px at HPX HNO2 HGN
                    generalize hpy : plc y.fb y.fa pr = py at HPY HNO2 HGN
                    clear hpx hpy
                    by_cases hlv : px < py
                    · go_wp2_with fail
                      refine wp_region_quiet_grown (by assumption) (by kernel_rfl) ?_
                      iterate 11 (quiet_step ((go_at_call 21; refine Calls.grown_of (HPX.out _))))
                      iterate 9 (quiet_step ((go_at_call 21; refine Calls.grown_of (HPY.out _))))
                      repeat (quiet_step (fail))
                      refine wpQuiet_nil ?_
                      rintro w5 ⟨⟨nq, osq⟩, hw5⟩
                      have hcx5 : CellsAt w5 g (f * 8 + j * 8) x.cells := by rw [hw5]; exact HCX.out nq osq
                      have hcy5 : CellsAt w5 g (f * 8 + q * 8) y.cells := by rw [hw5]; exact HCY.out nq osq
                      have hW5 : w5 = SW w4 g (f * 8) (m2 + nq) d2 (o2 ++ osq) := by rw [hw5, HW3.out, sw_grown]
                      have HW5 := Lib.hid hW5
                      have hg5 : g < w5.heap.size := block_lt_of_cell (hcx5 0 _ rfl)
                      have hA := alloc_below w5 (.cells #[.int .i64 x.k, .int .i64 x.d, .int .i64 x.fb, .int .i64 x.fa, .int .i64 x.tb, .int .i64 x.ta, .int .i64 x.c, .int .i64 x.r] 55)
                      obtain ⟨W6, hW6⟩ : ∃ W6, W6 = w5.alloc (.cells #[.int .i64 x.k, .int .i64 x.d, .int .i64 x.fb, .int .i64 x.fa, .int .i64 x.tb, .int .i64 x.ta, .int .i64 x.c, .int .i64 x.r] 55) := ⟨_, rfl⟩
                      have hSW6 : W6 = SW w4 g (f * 8) (m2 + nq) d2 (o2 ++ osq ++ #[.cells #[.int .i64 x.k, .int .i64 x.d, .int .i64 x.fb, .int .i64 x.fa, .int .i64 x.tb, .int .i64 x.ta, .int .i64 x.c, .int .i64 x.r] 55]) := by rw [hW6, hW5, sw_box]
                      have hsz6 : d2.size = s.toArray.size := by rw [HD2.out]; simpa using HSLEN.out.symm
                      have fx := fun c (hc : c < 8) => HH.out.frozen (m2 + nq) d2 (o2 ++ osq ++ #[.cells #[.int .i64 x.k, .int .i64 x.d, .int .i64 x.fb, .int .i64 x.fa, .int .i64 x.tb, .int .i64 x.ta, .int .i64 x.c, .int .i64 x.r] 55]) hsz6 (i := j) (by rw [HD2.out]; omega) hc
                      have fy := fun c (hc : c < 8) => HH.out.frozen (m2 + nq) d2 (o2 ++ osq ++ #[.cells #[.int .i64 x.k, .int .i64 x.d, .int .i64 x.fb, .int .i64 x.fa, .int .i64 x.tb, .int .i64 x.ta, .int .i64 x.c, .int .i64 x.r] 55]) hsz6 (i := q) (by rw [HD2.out]; omega) hc
                      rw [← hSW6] at fx fy
                      have hcx6 := hcx5.below hA hg5
                      have hcy6 := hcy5.below hA hg5
                      have hbx6 := box_at w5 55 x.cells
                      change CellsAt (w5.alloc (.cells #[.int .i64 x.k, .int .i64 x.d, .int .i64 x.fb, .int .i64 x.fa, .int .i64 x.tb, .int .i64 x.ta, .int .i64 x.c, .int .i64 x.r] 55)) w5.heap.size 0 x.cells at hbx6
                      have HSWP := Lib.hid (show ((W6.setCells g (f * 8 + j * 8) y.cells).setCells g (f * 8 + q * 8) x.cells) = SW w4 g (f * 8) (m2 + nq) (swp d2 j q) (o2 ++ osq ++ #[.cells #[.int .i64 x.k, .int .i64 x.d, .int .i64 x.fb, .int .i64 x.fa, .int .i64 x.tb, .int .i64 x.ta, .int .i64 x.c, .int .i64 x.r] 55]) by
                        have := sw_swap (w := w4) (blk := g) (off := f * 8) (m := m2 + nq) (d := d2) (os := o2 ++ osq ++ #[.cells #[.int .i64 x.k, .int .i64 x.d, .int .i64 x.fb, .int .i64 x.fa, .int .i64 x.tb, .int .i64 x.ta, .int .i64 x.c, .int .i64 x.r] 55]) HH.out.lt (i := j) (j := q) (by rw [HD2.out]; omega) (by rw [HD2.out]; omega)
                        rw [HDJ.out.1, HDJ.out.2.1] at this
                        rw [hSW6]; exact this)
                      obtain ⟨ob, HSW⟩ : ∃ ob : Array Obj, Hid (((W6.setCells g (f * 8 + j * 8) y.cells).setCells g (f * 8 + q * 8) x.cells) = SW w4 g (f * 8) (m2 + nq) (swp d2 j q) ob) := ⟨_, HSWP⟩
                      clear HSWP
                      have HNL := Lib.hid (show (swp d2 j q).toList = [] ++ (S.take q ++ (x :: (S.drop q ++ s.drop (i + 1)))) by
                        have h9 := left_step (t := q) (X := []) (L := S) (x := x) (Y := s.drop (i + 1)) (d := d2) (by rw [← HDJ.out.2.2.2]; exact HL2.out) (by have := HSS.out.2.1; have := HDJ.out.2.2.2; omega)
                        rw [HDJ.out.2.2.2]
                        simpa using h9)
                      have HND := Lib.hid (show (swp d2 j q).size = n by rw [size_swp]; exact HD2.out)
                      have HGQ := Lib.hid (HGN.out hlv)
                      obtain ⟨x0, x1, x2, x3, x4, x5, x6, x7⟩ := hcx5.eight
                      rw [← hW6] at hcy6 hbx6 hcx6
                      obtain ⟨z0, z1, z2, z3, z4, z5, z6, z7⟩ := hcx6.eight
                      obtain ⟨y0, y1, y2, y3, y4, y5, y6, y7⟩ := hcy6.eight
                      obtain ⟨b0, b1, b2, b3, b4, b5, b6, b7⟩ := hbx6.eight
                      have f0 := fx 0 (by omega)
                      have f1 := fx 1 (by omega)
                      have f2 := fx 2 (by omega)
                      have f3 := fx 3 (by omega)
                      have f4 := fx 4 (by omega)
                      have f5 := fx 5 (by omega)
                      have f6 := fx 6 (by omega)
                      have f7 := fx 7 (by omega)
                      have g0 := fy 0 (by omega)
                      have g1 := fy 1 (by omega)
                      have g2 := fy 2 (by omega)
                      have g3 := fy 3 (by omega)
                      have g4 := fy 4 (by omega)
                      have g5 := fy 5 (by omega)
                      have g6 := fy 6 (by omega)
                      have g7 := fy 7 (by omega)
                      rw [Nat.add_zero] at f0 g0
                      have hne6 : w5.heap.size ≠ g := by omega
                      have HW6 := Lib.hid hW6
                      clear hcx5 hcy5 hW5 hg5 hA hSW6 hsz6 fx fy hcx6 hcy6 hbx6 hw5 hW6
                      go_upto_region 18 with fail
                      rw [← HW6.out]
                      clear x0 x1 x2 x3 x4 x5 x6 x7
                      generalize w5.heap.size = bz at b0 b1 b2 b3 b4 b5 b6 b7 hne6 ⊢
                      go_wp2
                      have hjq2 := HDJ.out.2.2.2
                      refine ⟨⟨_, q, m2 + nq, swp d2 j q, ob, rfl, ?_, rfl, by omega, HND.out, HNL.out, HGQ.out⟩, by simp [intOf]; omega⟩
                      rw [set8_cells, set8_cells]
                      exact HSW.out
                    · have HFN := Lib.hid (HNO2.out hlv)
                      go_wp2_with fail
                      refine wp_region_quiet_grown (by assumption) (by kernel_rfl) ?_
                      iterate 11 (quiet_step ((go_at_call 21; refine Calls.grown_of (HPX.out _))))
                      iterate 9 (quiet_step ((go_at_call 21; refine Calls.grown_of (HPY.out _))))
                      repeat (quiet_step (fail))
                      refine wpQuiet_nil ?_
                      rintro w5 ⟨⟨nq, osq⟩, hw5⟩
                      have HW5 := Lib.hid (show w5 = SW w4 g (f * 8) (m2 + nq) d2 (o2 ++ osq) by rw [hw5, HW3.out, sw_grown])
                      clear hw5
                      go_wp2
                      exact ⟨⟨w5, i + 1, m2 + nq, d2, o2 ++ osq, rfl, HW5.out, by go_num, by omega, by omega, HD2.out, HFN.out⟩, by simp [intOf]; omega⟩
                  · obtain rfl : j = 0 := by omega
                    have HFN := Lib.hid (HNO.out (.inl rfl))
                    clear HNO hw3
                    go_wp2_with fail
                    go_big_quiet_o (fail)
                    have HW5 := Lib.hid (show W3.drewN nq = SW w4 g (f * 8) (m2 + nq) d2 (o2 ++ #[]) by
                      rw [HW3.out, ← sw_grown, grow_empty])
                    go_wp2
                    exact ⟨⟨W3.drewN nq, i + 1, m2 + nq, d2, o2 ++ #[], rfl, HW5.out, by go_num, by omega, by omega, HD2.out, HFN.out⟩, by simp [intOf]; omega⟩
              · have hin' : i = n := by omega
                subst hin'
                have HFI := Lib.hid (show d1.toList = isK (keyP pr) s by
                  rw [HL1.out, List.take_of_length_le (by rw [HSLEN.out]; exact Nat.le_refl _), List.drop_of_length_le (by rw [HSLEN.out]; exact Nat.le_refl _), List.append_nil])
                have HOF := Lib.hid (show W2.ownsRow w1.heap.size 55 8 (.slice (some ⟨g, 0, none⟩) N cap) N (vO (srtI l (k + 1))) by
                  rw [HNX.out, HW2.out, ← HX.out, ← HFI.out]
                  exact own_sortK HO4.out (by rw [HD1.out, HSLEN.out]))
                have hgr : w4.grownBy W2 (some g) := by rw [HW2.out]; exact grown_sortK
                have HPF := Lib.hid (HP4.out.keep (w' := W2) (fun q h1 h2 => hgr.block q (by have := HZ.out; omega) (fun e => by injection e with e; have := HZ.out; omega)))
                have HBF := Lib.hid (HB4.out.grown hgr HB4.out.size (fun q hq => by injection hq with hq; omega))
                have hsF : w3.heap.size ≤ W2.heap.size := by have := hgr.size; have := HZ.out; omega
                clear hgr
                go_wp2
                exact ⟨⟨k + 1, by omega, by go_num, HOF.out, HPF.out, HBF.out, hsF⟩, by simp [intOf]; omega⟩
          · have HSM := Lib.hid (HST.out.same (fun h => hsep h.2))
            rw [decide_eq_false hsep] at HAS
            clear hsep hs0
            rw [hW0] at HAS
            clear hW0
            go_wp2_with (go_at_call 20; refine HAS.out.mono ?_; rintro e w4 ⟨rfl, hb4⟩)
            have hb4' : Below W0.heap.size W0 w4 := by rw [HW0.out]; exact hb4
            have hsW : W0.heap.size = wr.heap.size + 1 := by rw [HW0.out]; simp
            have hs4 := hb4'.size
            refine ⟨⟨k + 1, by omega, by go_num, ?_, HP0.out.below (hb4'.mono (show w3.heap.size ≤ W0.heap.size by omega)), HB0.out.trans (hb4'.mono HB0.out.size), by omega⟩, by simp [intOf]; omega⟩
            rw [HSM.out, HST.out.out]
            exact own_below HO0.out hb4'
        · have HSM := Lib.hid (HST.out.same (fun h => hk2 h.1))
          have hk2' : (pk != 2) = true := by simpa using hk2
          clear hk2 hs0 hW0
          go_wp2_with fail
          have hW0 := HW0.out
          have hsW : W0.heap.size = wr.heap.size + 1 := by rw [hW0]; simp
          rw [hW0] at HO0 HP0 HB0 hsW
          refine ⟨⟨k + 1, by omega, by go_num, ?_, HP0.out, HB0.out, by omega⟩, by simp [intOf]; omega⟩
          rw [HSM.out, HST.out.out]
          exact HO0.out
      · have hkP : k = P.length := by omega
        subst hkP
        have HL := Lib.hid (show (srtT l).length = N by rw [HSL.out]; exact HN.out)
        have HWW := Lib.hid (show OwC wr w.heap.size wr.heap.size 55 8 v1 (srtT l).length (vO (srtT l)) by
          rw [HL.out, ← HE.out]; exact (OwC.of_own HO.out).wide hs01 (Nat.le_refl _))
        go_wp2
        go_ret2
        exact HY.out _ _ HWW.out HB.out

end Go.Proofs.Ytolcgopfbbmjgaa
