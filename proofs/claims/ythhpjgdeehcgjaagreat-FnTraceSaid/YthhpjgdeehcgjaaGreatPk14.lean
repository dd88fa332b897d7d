/-
  Texts joined: RkE2.
-/
import Derived.Test.YthhpjgdeehcgjaaGreatPk11
import Derived.Deep.RegionHeld3
import Derived.Deep.DeepCutAuto
/-
  The program's crossings of a step of the rack.
-/
namespace Go.Proofs.YthhpjgdeehcgjaaGreat
set_option linter.unusedVariables false
set_option linter.unusedSimpArgs false
open Go.RowKit

set_option maxHeartbeats 16000000 in
set_option maxRecDepth 100000 in
theorem rackEvents_dn (m : Mc) (g : Nat) (w : World) (h : RdP w g m) (ok : okM m = true) (up : Bool) (hup : up = false) :
    Calls Tryz.prog 92 #[.pointer (some ⟨g, 0, none⟩), .int .i64 (if up = true then 1 else -1)] w (GivesOw w 47 6 (crEs (rkP m up)).length (vE (crEs (rkP m up)))) := by
  obtain ⟨i0, hi, hz0, hz1, hz2⟩ := info_parts info_ev
  have HP := Lib.hid h
  have HOK := Lib.hid ok
  have hn60 := ndL_len ok
  have hnp := ndL_pos ok
  obtain ⟨d1, d2, d3, d4, -, -, -⟩ := ok_wd ok
  obtain ⟨F, G, C, Lv, D, hc, -⟩ := h
  have hgl : g < w.heap.size := block_lt_of_cell hc.seven.1
  have HC := Lib.hid hc
  obtain ⟨W, hW⟩ : ∃ W : Nat, (W : Int) = m.wd := ⟨m.wd.toNat, by omega⟩
  obtain ⟨Y, hYE⟩ : ∃ Y, Y = crEs (rkP m up) := ⟨_, rfl⟩
  have HY := Lib.hid (show Y = [] ++ crEs (rkG m up (W - 0) 0 (ndL m)) by rw [hYE]; unfold rkP; rw [show m.wd.toNat = W - 0 by omega]; rfl)
  rw [← hYE]
  have HND := Lib.hid (fun n (hn : n ∈ ndL m) => ndL_ok hn)
  have BW := Lib.hid (show Below w.heap.size w (w.alloc (.cells #[] 47)) from (Below.refl _ _).alloc (Nat.le_refl _) _)
  obtain ⟨st, hst⟩ : ∃ st : Int, st = if up = true then 1 else -1 := ⟨_, rfl⟩
  rw [← hst]
  have HST := Lib.hid hst
  clear hc ok hYE hst
  go_enter Tryz.func92, Tryz.ntmps92
  go_wp2_with fail
  refine (needles_any m g _ (HP.out.below BW.out) HOK.out).mono ?_
  rintro e w1 ⟨v, rfl, ho, hb1⟩
  obtain ⟨bo, cap, rfl, hbo0, hbo1, hcap, hbx⟩ := bx_of_own ho hnp
  have hs1 := hb1.size
  rw [World.size_alloc] at hbo0 hs1
  have HB1 := Lib.hid (BW.out.trans (hb1.mono BW.out.size))
  have HO1 := Lib.hid (own_below (World.ownsRow_lit (base := w.heap.size) (e := 47) (size := 6) w #[] 0 (Nat.le_refl _) (by unfold maxLen; omega) rfl) hb1)
  have HX1 := Lib.hid hbx
  generalize hln : (ndL m).length = N at *
  have HLN := Lib.hid hln
  have y0 : w1.cell? ⟨g, 0, none⟩ = some (.int .i64 m.wd) := (HC.out.below HB1.out hgl).seven.1
  clear ho hb1 hbx hln
  go_wp2
  go_loopw [5, 23] (fun v i wr => ∃ (k : Nat) (L : List Nd) (acc : List Ev), k ≤ W ∧ i = .int .i64 k ∧ wr.ownsRow w.heap.size 47 6 v acc.length (vE acc) ∧ acc.length ≤ 16 * k ∧ L.length = N ∧ Hid (∀ n ∈ L, ndOk m n) ∧ Hid (Y = acc ++ crEs (rkG m up (W - k) k L)) ∧ Hid (Bx wr bo (vS ndC L)) ∧ Hid (v.ownBlock ≠ some bo) ∧ Hid (Below w.heap.size w wr)) (fun _ i _ => W - (intOf i).toNat)
  case atStart => exact ⟨0, ndL m, [], Nat.zero_le _, rfl, HO1.out, Nat.zero_le _, HLN.out, HND.out, HY.out, HX1.out, (fun e => by have : w.heap.size = bo := Option.some.inj e; omega), HB1.out⟩
  case round =>
    rename_i wr
    obtain ⟨k, L, acc, hk, rfl, hown, hac, hLN, hnd, hd, hx, hvb, hb⟩ := hrel
    have hgr : g < wr.heap.size := Nat.lt_of_lt_of_le hgl hb.out.size
    have y1 : wr.cell? ⟨g, 1, none⟩ = some (.int .i64 m.rk) := (HC.out.below hb.out hgl).seven.2.1
    have y1a : ∀ o, (wr.alloc o).cell? ⟨g, 1, none⟩ = some (.int .i64 m.rk) := fun o => (HC.out.below (hb.out.alloc hb.out.size o) hgl).seven.2.1
    have HO := Lib.hid hown
    clear hown y0
    by_cases hlt : k < W
    · obtain ⟨f, hf⟩ : ∃ f, W - k = f + 1 := ⟨W - k - 1, by omega⟩
      rw [hf] at hd
      have hfk : W - (k + 1) = f := by omega
      have hbr : bo < wr.heap.size := hx.out.2.2
      have hgo : g ≠ bo := by omega
      have hci : (k : Int) < m.wd := by omega
      have hRC := fun d (hd : d = if up = true then 1 else 0) => rk_case m up k L d hd
      have hIR := idx_rng ((1 : Int), (k : Int)) L
      generalize hI : idxOf (fun y => decide (((1 : Int), (k : Int)) = y)) L = I at *
      have HI := Lib.hid hI
      obtain ⟨hI0, hI1⟩ := hIR
      rw [hLN] at hI1
      clear hI
      cases up with
      | true => exact absurd hup (by decide)
      | false =>
        have hst : st = -1 := by rw [HST.out]; rfl
        subst hst
        have hcase := hRC 0 rfl
        rw [Int.sub_zero, Int.sub_zero] at hcase
        have HCASE := Lib.hid hcase
        have HA1 := Lib.hid (hb.out.alloc hb.out.size (.cells #[.int .i64 1, .int .i64 (k : Int)] 39))
        have HA2 := Lib.hid (HA1.out.alloc HA1.out.size (.cells #[.int .i64 2, .int .i64 ((k : Int) - m.rk)] 39))
        have HXA := Lib.hid ((hx.out.alloc (.cells #[.int .i64 1, .int .i64 (k : Int)] 39)).alloc (.cells #[.int .i64 2, .int .i64 ((k : Int) - m.rk)] 39))
        have HOA := Lib.hid ((HO.out.alloc (.cells #[.int .i64 1, .int .i64 (k : Int)] 39)).alloc (.cells #[.int .i64 2, .int .i64 ((k : Int) - m.rk)] 39))
        have HBX := Lib.hid (Bx.new (wr.alloc (.cells #[.int .i64 1, .int .i64 (k : Int)] 39)) [.int .i64 2, .int .i64 ((k : Int) - m.rk)] 39)
        clear hRC hcase
        go_wp2_with fail
        refine (indexNd_any _ L ((1 : Int), (k : Int)) _ (bx_rd HXA.out hLN hn60)).mono ?_
        rintro e w3 ⟨rfl, hb3⟩
        rw [HI.out]
        have HX3 : Hid (Bx w3 (wr.heap.size + 1) [.int .i64 2, .int .i64 ((k : Int) - m.rk)]) := by
          have := HBX.out.below hb3 HBX.out.2.2
          rw [World.size_alloc] at this
          exact this
        have HL3 := Lib.hid (HXA.out.below hb3 HXA.out.2.2)
        have HO3 := Lib.hid (own_below HOA.out hb3)
        have HB3 := Lib.hid (HA2.out.trans (hb3.mono HA2.out.size))
        have hz3 : wr.heap.size + 2 ≤ w3.heap.size := by have := hb3.size; simp at this; omega
        obtain ⟨kb, hkbe⟩ : ∃ kb, kb = (k : Int) - m.rk := ⟨_, rfl⟩
        rw [← hkbe] at HX3 HCASE
        obtain ⟨a, rfl⟩ : ∃ a, a = I := ⟨I, rfl⟩
        clear hb3 HA1 HA2 HXA HOA HBX hkbe y1a y1 hx
        go_wp2
        obtain ⟨c0, c1⟩ := HX3.out.two
        rcases HCASE.out with ⟨h, hs⟩ | ⟨p, h, hp, hs⟩ | ⟨p, u, v, h, hp, hu, hv, h1, h2, hs⟩ | ⟨P, T, u, v, h, hL, h1, hs⟩
        · have HDN := rkG_next hd.out hs
          rw [show crEs [] = [] from rfl, List.append_nil] at HDN
          go_quiet (fail)
          have HO4 : Hid ((w3.drewN nq).ownsRow w.heap.size 47 6 _ acc.length (vE acc)) := HO3.out
          have HB4 := Lib.hid (below_drewN HB3.out nq)
          have HL4 : Hid (Bx (w3.drewN nq) bo (vS ndC L)) := HL3.out
          have HD4 := Lib.hid HDN
          clear HDN hd HCASE
          go_wp2
          exact ⟨⟨k + 1, L, acc, by omega, by go_num, HO4.out, by omega, hLN, hnd, by rw [hfk]; exact HD4, HL4, hvb, HB4⟩, by simp [intOf]; omega⟩
        · subst h
          have HDN := rkG_next hd.out hs
          rw [show crEs [] = [] from rfl, List.append_nil] at HDN
          rw [hLN] at hp
          have hp0 : ¬ ((p : Int) < 0) := by omega
          have hp2 : (N : Int) ≤ (p : Int) + 1 := by omega
          have hpw : IntKind.i64.wrap ((p : Int) + 1) = (p : Int) + 1 := IntWalk.i64_in _ (by omega)
          go_quiet (fail)
          have HO4 : Hid ((w3.drewN nq).ownsRow w.heap.size 47 6 _ acc.length (vE acc)) := HO3.out
          have HB4 := Lib.hid (below_drewN HB3.out nq)
          have HL4 : Hid (Bx (w3.drewN nq) bo (vS ndC L)) := HL3.out
          have HD4 := Lib.hid HDN
          clear HDN hd HCASE
          go_wp2
          exact ⟨⟨k + 1, L, acc, by omega, by go_num, HO4.out, by omega, hLN, hnd, by rw [hfk]; exact HD4, HL4, hvb, HB4⟩, by simp [intOf]; omega⟩
        · subst h
          have HDN := rkG_next hd.out hs
          rw [show crEs [] = [] from rfl, List.append_nil] at HDN
          rw [hLN] at hp
          obtain ⟨u1, u2⟩ := u
          obtain ⟨v1, v2⟩ := v
          obtain ⟨e0, e1⟩ := (bx_at HL3.out hu).two
          obtain ⟨f0, f1⟩ := (bx_at HL3.out hv).two
          rw [Nat.zero_add] at e0 e1 f0 f1
          have hp0 : ¬ ((p : Int) < 0) := by omega
          have hpw : IntKind.i64.wrap ((p : Int) + 1) = (p : Int) + 1 := IntWalk.i64_in _ (by omega)
          have hpN : (p : Int) < (N : Int) := by omega
          have hpN1 : (p : Int) + 1 < (N : Int) := by omega
          have n1 : ∀ W, (binOp .neq 39 (.agg #[.int .i64 u1, .int .i64 u2]) (.agg #[.int .i64 2, .int .i64 kb])).run Tryz.prog W = .ok (.bool true) W := fun W => by rw [neq_nd, show (decide (u1 = 2) && decide (u2 = kb)) = false from by rw [← Bool.not_eq_true]; simp only [Bool.and_eq_true, decide_eq_true_eq]; exact fun q => h1 (by rw [q.1, q.2])]; rfl
          have n2 : ∀ W, (binOp .neq 39 (.agg #[.int .i64 v1, .int .i64 v2]) (.agg #[.int .i64 2, .int .i64 kb])).run Tryz.prog W = .ok (.bool true) W := fun W => by rw [neq_nd, show (decide (v1 = 2) && decide (v2 = kb)) = false from by rw [← Bool.not_eq_true]; simp only [Bool.and_eq_true, decide_eq_true_eq]; exact fun q => h2 (by rw [q.1, q.2])]; rfl
          have hp0 : ¬ ((p : Int) < 0) := by omega
          have hpN : (p : Int) < (N : Int) := by omega
          have hpN1 : (p : Int) + 1 < (N : Int) := by omega
          have hp1 : ¬ ((N : Int) ≤ (p : Int) + 1) := by omega
          have hpw : IntKind.i64.wrap ((p : Int) + 1) = (p : Int) + 1 := IntWalk.i64_in _ (by omega)
          clear h1 h2
          go_quiet (fail)
          have HO4 : Hid ((w3.drewN nq).ownsRow w.heap.size 47 6 _ acc.length (vE acc)) := HO3.out
          have HB4 := Lib.hid (below_drewN HB3.out nq)
          have HL4 : Hid (Bx (w3.drewN nq) bo (vS ndC L)) := HL3.out
          have HD4 := Lib.hid HDN
          clear HDN hd HCASE
          go_wp2
          exact ⟨⟨k + 1, L, acc, by omega, by go_num, HO4.out, by omega, hLN, hnd, by rw [hfk]; exact HD4, HL4, hvb, HB4⟩, by simp [intOf]; omega⟩
        · subst h
          have HDN := Lib.hid (show Y = (acc ++ crEs (crL (szL m P) (szN m u) (szN m v) (1))) ++ crEs (rkG m _ f (k + 1) (P ++ v :: u :: T)) from rkG_next hd.out hs)
          have hplen : P.length + 2 ≤ N := by rw [← hLN, hL]; simp
          have hu : L[P.length]? = some u := by rw [hL]; simp
          have hv : L[P.length + 1]? = some v := by rw [hL, List.getElem?_append_right (by omega)]; simp
          have HNDu := Lib.hid (hnd.out u (List.mem_of_getElem? hu))
          have HNDv := Lib.hid (hnd.out v (List.mem_of_getElem? hv))
          have HNDP := Lib.hid (fun y (hy : y ∈ P) => hnd.out y (by rw [hL]; exact List.mem_append_left _ hy))
          have HNDS := Lib.hid (fun y (hy : y ∈ P ++ v :: u :: T) => hnd.out y (by rw [hL]; simp only [List.mem_append, List.mem_cons] at hy ⊢; rcases hy with h | h | h | h; exact .inl h; exact .inr (.inr (.inl h)); exact .inr (.inl h); exact .inr (.inr (.inr h))))
          obtain ⟨u1, u2⟩ := u
          obtain ⟨v1, v2⟩ := v
          obtain ⟨e0, e1⟩ := (bx_at HL3.out hu).two
          obtain ⟨f0, f1⟩ := (bx_at HL3.out hv).two
          rw [Nat.zero_add] at e0 e1 f0 f1
          have HLL := Lib.hid hL
          have HPL := Lib.hid (fun (j : Nat) (hj : j < P.length) => show L[j]? = P[j]? by rw [hL, List.getElem?_append_left hj])
          have HSZP := Lib.hid (szL_le HOK.out P)
          have HSZ := Lib.hid (show szL m P = 0 + szL m (P.drop 0) by simp)
          obtain ⟨p, hpe⟩ : ∃ p, p = P.length := ⟨_, rfl⟩
          rw [← hpe] at hplen e0 e1 f0 f1 HPL HSZP hu hv ⊢
          have HPE := Lib.hid hpe
          have hp0 : ¬ ((p : Int) < 0) := by omega
          have hpN : (p : Int) < (N : Int) := by omega
          have hpN1 : (p : Int) + 1 < (N : Int) := by omega
          have hp1 : ¬ ((N : Int) ≤ (p : Int) + 1) := by omega
          have hpw : IntKind.i64.wrap ((p : Int) + 1) = (p : Int) + 1 := IntWalk.i64_in _ (by omega)
          clear hL hs hpe HCASE
          go_cut [73] (fun s73 wx => ∃ (nq : Nat) (wy : World), wy = wx ∧ wy = w3.drewN nq ∧ s73 = .bool false)
          case first =>
            by_cases hub : u1 = 2 ∧ u2 = kb
            · have n1 : ∀ W, (binOp .neq 39 (.agg #[.int .i64 u1, .int .i64 u2]) (.agg #[.int .i64 2, .int .i64 kb])).run Tryz.prog W = .ok (.bool false) W := fun W => by rw [neq_nd]; simp [hub]
              clear h1 hub
              go_quiet (fail)
              go_wp2_with fail
              go_meet
              exact ⟨nq, _, rfl, rfl, rfl⟩
            · have n1 : ∀ W, (binOp .neq 39 (.agg #[.int .i64 u1, .int .i64 u2]) (.agg #[.int .i64 2, .int .i64 kb])).run Tryz.prog W = .ok (.bool true) W := fun W => by rw [neq_nd, show (decide (u1 = 2) && decide (u2 = kb)) = false from by rw [← Bool.not_eq_true]; simp only [Bool.and_eq_true, decide_eq_true_eq]; exact fun q => hub q]; rfl
              have n2 : ∀ W, (binOp .neq 39 (.agg #[.int .i64 v1, .int .i64 v2]) (.agg #[.int .i64 2, .int .i64 kb])).run Tryz.prog W = .ok (.bool false) W := fun W => by
                rw [neq_nd]
                rcases h1 with h1 | h1
                · injection h1 with q1 q2; exact absurd ⟨q1, q2⟩ hub
                · injection h1 with q1 q2; simp [q1, q2]
              clear h1 hub
              go_quiet (fail)
              go_wp2_with fail
              go_meet
              exact ⟨nq, _, rfl, rfl, rfl⟩
          case rest =>
            obtain ⟨nq, w4', hw4', hq4, rfl⟩ := hcut
            have HO4 : Hid ((w3.drewN nq).ownsRow w.heap.size 47 6 _ acc.length (vE acc)) := HO3.out
            have HB4 := Lib.hid (below_drewN HB3.out nq)
            have HL4 : Hid (Bx (w3.drewN nq) bo (vS ndC L)) := HL3.out
            have hz4 : wr.heap.size + 2 ≤ (w3.drewN nq).heap.size := hz3
            rw [hq4] at hw4'
            subst hw4'
            clear hq4
            generalize w3.drewN nq = w4 at *
            clear HO3 HB3 HL3 HX3 hz3 c0 c1 hd e0 e1 f0 f1 hp0 hp1
            have hpc : (p : Int) ≤ (cap : Int) := by omega
            go_wp2
            go_loopw [11, 78] (fun o i wq => ∃ (Wq : World) (j q : Nat), Wq = wq ∧ j ≤ p ∧ i = .int .i64 j ∧ o = .int .i64 q ∧ q ≤ 4 * j ∧ Hid (szL m P = q + szL m (P.drop j)) ∧ Hid (Below w4.heap.size w4 Wq)) (fun _ i _ => p - (intOf i).toNat)
            case atStart => exact ⟨w4, 0, 0, rfl, Nat.zero_le _, rfl, rfl, by omega, HSZ.out, Below.refl _ _⟩
            case round =>
              obtain ⟨Wq, j, q, hWW, hj, rfl, rfl, hq, hsz, hbq⟩ := hrel
              subst hWW
              by_cases hjp : j < p
              · have hjk : P[j]? = some (P[j]'(by have := HPE.out; omega)) := List.getElem?_eq_getElem _
                generalize P[j]'(by have := HPE.out; omega) = y at hjk
                have HLq := HL4.out.below hbq.out HL4.out.2.2
                have hyl := (bx_at HLq ((HPL.out j hjp).trans hjk)).two
                obtain ⟨y1, y2⟩ := y
                obtain ⟨c0, c1⟩ := hyl
                rw [Nat.zero_add] at c0 c1
                have HNO := Lib.hid (HNDP.out _ (List.mem_of_getElem? hjk))
                have hm4 := szN_le HOK.out (y1, y2)
                have HS := Lib.hid (show szL m P = (q + szN m (y1, y2)) + szL m (P.drop (j + 1)) by rw [hsz.out, drop_of_get hjk, szL_cons]; omega)
                have HBq := Lib.hid (HB4.out.trans (hbq.out.mono HB4.out.size))
                have HQ := Lib.hid (fun (o : Obj) => on_any m g (y1, y2) _ (HP.out.below ((HBq.out.alloc HBq.out.size o))) HOK.out HNO.out)
                have hjN : (j : Int) < (p : Int) := by omega
                clear hjk HLq hsz
                go_wp2_with fail
                refine (HQ.out _).mono ?_
                rintro e w2 ⟨⟨b2, o2, A2, c2, rfl, hb2, hc2, hs2⟩, hbw2⟩
                have hc3 : w2.cell? ⟨b2, o2, none⟩ = some (.slice A2 (szN m (y1, y2)) c2) := (hbw2.cell hb2).trans hc2
                have HB2 := Lib.hid ((hbq.out.alloc hbq.out.size _).trans (hbw2.mono (hbq.out.alloc hbq.out.size _).size))
                generalize szN m (y1, y2) = s at *
                clear hbw2 hs2 hc2
                go_wp2
                exact ⟨⟨w2, j + 1, q + s, rfl, by omega, by go_num, by go_num, by omega, HS.out, HB2.out⟩, by simp [intOf]; omega⟩
              · have HS := Lib.hid (show szL m P = q by rw [hsz.out, List.drop_of_length_le (by have := HPE.out; omega)]; simp [szL])
                have HL5 := Lib.hid (HL4.out.below hbq.out HL4.out.2.2)
                have HB5 := Lib.hid (HB4.out.trans (hbq.out.mono HB4.out.size))
                have HO5 := Lib.hid (own_below HO4.out hbq.out)
                have hz5 : wr.heap.size + 2 ≤ Wq.heap.size := Nat.le_trans hz4 hbq.out.size
                clear hsz hbq HO4 HB4 HL4 hz4
                obtain ⟨e0, e1⟩ := (bx_at HL5.out hu).two
                obtain ⟨f0, f1⟩ := (bx_at HL5.out hv).two
                rw [Nat.zero_add] at e0 e1 f0 f1
                have hal := fun (o o' : Obj) => (HL5.out.alloc o).alloc o'
                have e0a : ∀ o o', ((Wq.alloc o).alloc o').cell? ⟨bo, p * 2, none⟩ = some (.int .i64 u1) := fun o o' => by have := (bx_at (hal o o') hu).two.1; rwa [Nat.zero_add] at this
                have e1a : ∀ o o', ((Wq.alloc o).alloc o').cell? ⟨bo, p * 2 + 1, none⟩ = some (.int .i64 u2) := fun o o' => by have := (bx_at (hal o o') hu).two.2; rwa [Nat.zero_add] at this
                have f0a : ∀ o o', ((Wq.alloc o).alloc o').cell? ⟨bo, (p + 1) * 2, none⟩ = some (.int .i64 v1) := fun o o' => by have := (bx_at (hal o o') hv).two.1; rwa [Nat.zero_add] at this
                have f1a : ∀ o o', ((Wq.alloc o).alloc o').cell? ⟨bo, (p + 1) * 2 + 1, none⟩ = some (.int .i64 v2) := fun o o' => by have := (bx_at (hal o o') hv).two.2; rwa [Nat.zero_add] at this
                have e0b : ∀ o, (Wq.alloc o).cell? ⟨bo, p * 2, none⟩ = some (.int .i64 u1) := fun o => by have := (bx_at (HL5.out.alloc o) hu).two.1; rwa [Nat.zero_add] at this
                have e1b : ∀ o, (Wq.alloc o).cell? ⟨bo, p * 2 + 1, none⟩ = some (.int .i64 u2) := fun o => by have := (bx_at (HL5.out.alloc o) hu).two.2; rwa [Nat.zero_add] at this
                have f0b : ∀ o, (Wq.alloc o).cell? ⟨bo, (p + 1) * 2, none⟩ = some (.int .i64 v1) := fun o => by have := (bx_at (HL5.out.alloc o) hv).two.1; rwa [Nat.zero_add] at this
                have f1b : ∀ o, (Wq.alloc o).cell? ⟨bo, (p + 1) * 2 + 1, none⟩ = some (.int .i64 v2) := fun o => by have := (bx_at (HL5.out.alloc o) hv).two.2; rwa [Nat.zero_add] at this
                clear hal
                have hbq5 : bo < Wq.heap.size := HL5.out.2.2
                have hw5 : w.heap.size ≤ Wq.heap.size := HB5.out.size
                go_wp2
                go_cut [14, 15] (fun s14 s15 wx => ∃ (bl br : Nat) (wy : World), wy = wx ∧ s14 = .pointer (some ⟨bl, 0, none⟩) ∧ s15 = .pointer (some ⟨br, 0, none⟩) ∧ bl ≠ br ∧ Wq.heap.size ≤ bl ∧ Wq.heap.size ≤ br ∧ Hid (Bx wx bl [.int .i64 u1, .int .i64 u2]) ∧ Hid (Bx wx br [.int .i64 v1, .int .i64 v2]) ∧ Hid (Below Wq.heap.size Wq wx))
                case first =>
                  have hst := ((Bx.new Wq [.int .i64 u1, .int .i64 u2] 39).alloc (.cells #[.int .i64 v1, .int .i64 v2] 39)).drew
                  have hst' := (Bx.new (Wq.alloc (.cells #[.int .i64 u1, .int .i64 u2] 39)) [.int .i64 v1, .int .i64 v2] 39).drew
                  have hsu := ((Bx.new Wq [.int .i64 v1, .int .i64 v2] 39).alloc (.cells #[.int .i64 u1, .int .i64 u2] 39)).drew
                  have hsu' := (Bx.new (Wq.alloc (.cells #[.int .i64 v1, .int .i64 v2] 39)) [.int .i64 u1, .int .i64 u2] 39).drew
                  rw [World.size_alloc] at hst' hsu'
                  have HS1 := Lib.hid hst
                  have HS2 := Lib.hid hst'
                  have HS3 := Lib.hid hsu
                  have HS4 := Lib.hid hsu'
                  have HBA := Lib.hid (fun (o o' : Obj) => (((Below.refl Wq.heap.size Wq).alloc (Nat.le_refl _) o).alloc (by simp) o').drew)
                  clear hst hst' hsu hsu'
                  go_region
                  all_goals (go_wp2_with fail; go_meet)
                  all_goals first
                    | exact ⟨Wq.heap.size, Wq.heap.size + 1, _, rfl, rfl, rfl, by omega, by omega, by omega, HS1.out, HS2.out, HBA.out _ _⟩
                    | exact ⟨Wq.heap.size + 1, Wq.heap.size, _, rfl, rfl, rfl, by omega, by omega, by omega, HS4.out, HS3.out, HBA.out _ _⟩
                case rest =>
                  obtain ⟨bl, br, W5, hW5, rfl, rfl, hlr, hbl, hbr5, HBl, HBr, hb5⟩ := hcut
                  subst hW5
                  have HB6 := Lib.hid (HB5.out.trans (hb5.out.mono HB5.out.size))
                  have HO6 := Lib.hid (own_below HO5.out hb5.out)
                  have HL6 := Lib.hid (HL5.out.below hb5.out HL5.out.2.2)
                  have hz6 : wr.heap.size + 2 ≤ W5.heap.size := Nat.le_trans hz5 hb5.out.size
                  have hq6 : Wq.heap.size ≤ W5.heap.size := hb5.out.size
                  have hbo6 : bo < W5.heap.size := HL6.out.2.2
                  have hown5 := fun q e => (World.ownsRow.lt HO5.out q e)
                  have HOW := Lib.hid hown5
                  have hRP6 := HP.out.below HB6.out
                  obtain ⟨ab, ao, sl, cl, hab, hac1, hcL⟩ := on_fix m g (u1, u2) w HP.out HOK.out HNDu.out
                  obtain ⟨rb, ro, sr, cr, hrb, hrc1, hcR⟩ := on_fix m g (v1, v2) w HP.out HOK.out HNDv.out
                  have hs4u := szN_le HOK.out (u1, u2)
                  have hs4v := szN_le HOK.out (v1, v2)
                  have HCL := Lib.hid hcL
                  have HCR := Lib.hid hcR
                  have HQC := Lib.hid (fun X => crossings_any (q : Int) (szN m (u1, u2)) (szN m (v1, v2)) (1) (by omega) (by omega) hs4u hs4v X)
                  have HLEN := Lib.hid (crs_le (p := (q : Int)) (s := 1) hs4u hs4v)
                  have HDN2 := Lib.hid (show Y = (acc ++ crEs (crL (q : Int) (szN m (u1, u2)) (szN m (v1, v2)) (1))) ++ crEs (rkG m _ f (k + 1) (P ++ (v1, v2) :: (u1, u2) :: T)) by rw [HDN.out, HS.out])
                  generalize szN m (u1, u2) = su at *
                  generalize szN m (v1, v2) = sv at *
                  have HSK := Lib.hid (fun (X : World) (hX : Below w.heap.size w X) (h1 : ∀ j, X.cell? ⟨bl, j, none⟩ = W5.cell? ⟨bl, j, none⟩) (h2 : ∀ j, X.cell? ⟨br, j, none⟩ = W5.cell? ⟨br, j, none⟩) => show X.cell? ⟨bl, 0, none⟩ = some (.int .i64 u1) ∧ X.cell? ⟨bl, 1, none⟩ = some (.int .i64 u2) ∧ X.cell? ⟨br, 0, none⟩ = some (.int .i64 v1) ∧ X.cell? ⟨br, 1, none⟩ = some (.int .i64 v2) ∧ X.cell? ⟨ab, ao, none⟩ = some (.slice sl su cl) ∧ X.cell? ⟨rb, ro, none⟩ = some (.slice sr sv cr) from
                    ⟨(h1 0).trans HBl.out.two.1, (h1 1).trans HBl.out.two.2, (h2 0).trans HBr.out.two.1, (h2 1).trans HBr.out.two.2, (hX.cell (p := ⟨ab, ao, none⟩) hab).trans hac1, (hX.cell (p := ⟨rb, ro, none⟩) hrb).trans hrc1⟩)
                  have HSW := Lib.hid (fun (X : World) (hX : Below W5.heap.size W5 X) => HSK.out X (HB6.out.trans (hX.mono HB6.out.size)) (fun j => hX.cell (p := ⟨bl, j, none⟩) HBl.out.2.2) (fun j => hX.cell (p := ⟨br, j, none⟩) HBr.out.2.2))
                  have hwW := HB6.out.size
                  have HWB := Lib.hid (fun (X Z : World) (hX : Below W5.heap.size W5 X) (hZ : Below X.heap.size X Z) => hX.trans (hZ.mono hX.size))
                  clear hac1 hrc1 hcL hcR e0 e1 f0 f1 e0a e1a f0a f1a e0b e1b f0b f1b hown5 hRP6 HDN HS
                  go_wp2
                  go_cut [5] (fun s5 wx => ∃ (v8 : Value) (w8 : World), w8 = wx ∧ v8 = s5 ∧ Hid (wx.ownsRow w.heap.size 47 6 v8 (acc ++ crEs (crL (q : Int) su sv (1))).length (vE (acc ++ crEs (crL (q : Int) su sv (1))))) ∧ Hid (v8.ownBlock ≠ some bo) ∧ Hid (Below w.heap.size w wx) ∧ Hid (Bx wx bo (vS ndC L)) ∧ Hid (Bx wx bl [.int .i64 u1, .int .i64 u2]) ∧ Hid (Bx wx br [.int .i64 v1, .int .i64 v2]))
                  case first =>
                    go_region_held3 (fun w' => w'.cell? ⟨bl, 0, none⟩ = some (.int .i64 u1) ∧ w'.cell? ⟨bl, 1, none⟩ = some (.int .i64 u2) ∧ w'.cell? ⟨br, 0, none⟩ = some (.int .i64 v1) ∧ w'.cell? ⟨br, 1, none⟩ = some (.int .i64 v2) ∧ w'.cell? ⟨ab, ao, none⟩ = some (.slice sl su cl) ∧ w'.cell? ⟨rb, ro, none⟩ = some (.slice sr sv cr))
                      (first | with_reducible exact HSW.out _ (Below.refl _ _) | with_reducible exact HSW.out _ (Below.refl _ _).drew | with_reducible exact S8 | with_reducible exact HSW.out _ hbC | with_reducible exact HSW.out _ hbB | with_reducible exact HSW.out _ hbA)
                      (first
                        | (go_at_call_of 53 (Value.agg #[.int .i64 u1, .int .i64 u2]); refine (HCL.out _ (HB6.out.trans ((Below.refl W5.heap.size W5).drew.mono HB6.out.size))).mono ?_; rintro e wA ⟨rfl, hbA0⟩; have hbA : Below W5.heap.size W5 wA := HWB.out _ _ (Below.refl W5.heap.size W5).drew hbA0)
                        | (go_at_call_of 53 (Value.agg #[.int .i64 v1, .int .i64 v2]); refine (HCR.out _ (HB6.out.trans (hbA.mono HB6.out.size))).mono ?_; rintro e wB ⟨rfl, hbB0⟩; have hbB : Below W5.heap.size W5 wB := HWB.out _ _ hbA hbB0)
                        | (go_at_call 104; refine (HQC.out _).mono ?_; rintro e wC ⟨vC, rfl, hoC, hbC0⟩; have hbC : Below W5.heap.size W5 wC := HWB.out _ _ hbB hbC0; obtain ⟨AC, cC, rfl, -⟩ := hoC.cells; have hrdC := (RdS.reads Ev.len (by decide) (RdS.of_own Ev.len hoC)).1; have howC := own_below HO6.out hbC; have hszC := hbC.size)
                        | (refine step_append_any _ (by rfl) _ _ _ (by rfl) w.heap.size 47 i0 _ 6 48 Tryz.underlying26 hi hz0 hz1 hz2 rfl (by decide) _ acc.length (vE acc) (by rfl) howC wC.heap.size AC _ cC (vE (crEs (crL (q : Int) su sv (1)))) (by rfl) hrdC (vE_one _) (by have := HLEN.out; unfold maxLen; omega) (by have := HLEN.out; omega) (by omega) ?_; intro v8 w8 hown8 hg8 hat8; have S8 := HSK.out w8 ((HB6.out.trans (hbC.mono HB6.out.size)).grown hg8 (by omega) (fun q' hq' => (World.ownsRow.lt howC q' hq').1)) (fun j => (hg8.cell_far ⟨bl, j, none⟩ (by show bl < wC.heap.size; have := HBl.out.2.2; omega) (fun e => by have h9 : bl < Wq.heap.size := (HOW.out _ e.symm).2; omega)).trans (hbC.cell (p := ⟨bl, j, none⟩) HBl.out.2.2)) (fun j => (hg8.cell_far ⟨br, j, none⟩ (by show br < wC.heap.size; have := HBr.out.2.2; omega) (fun e => by have h9 : br < Wq.heap.size := (HOW.out _ e.symm).2; omega)).trans (hbC.cell (p := ⟨br, j, none⟩) HBr.out.2.2))))
                    have HB8 := Lib.hid ((HB6.out.trans (hbC.mono HB6.out.size)).grown hg8 (by omega) (fun q' hq' => (World.ownsRow.lt howC q' hq').1))
                    have hkp : ∀ b', b' < W5.heap.size → (some b' ≠ u5.ownBlock) → w8.heap[b']? = W5.heap[b']? := fun b' h1 h2 => (hg8.block b' (by omega) h2).trans (hbC.block b' h1)
                    have hz8 : W5.heap.size ≤ w8.heap.size := Nat.le_trans hszC hg8.size
                    have HO8 : Hid (w8.ownsRow w.heap.size 47 6 v8 (acc ++ crEs (crL (q : Int) su sv (1))).length (vE (acc ++ crEs (crL (q : Int) su sv (1))))) := by unfold Hid; rw [List.length_append, vE_app]; exact hown8
                    have HVB8 : Hid (v8.ownBlock ≠ some bo) := fun e => by
                      rcases hat8 with h | h
                      · exact hvb.out (h ▸ e)
                      · rw [h] at e; injection e with e; omega
                    have HL8 := Lib.hid (HL6.out.keep (hkp bo hbo6 (fun e => hvb.out e.symm)) hz8)
                    have HBl8 := Lib.hid (HBl.out.keep (hkp bl HBl.out.2.2 (fun e => by have h9 : bl < Wq.heap.size := (HOW.out _ e.symm).2; omega)) hz8)
                    have HBr8 := Lib.hid (HBr.out.keep (hkp br HBr.out.2.2 (fun e => by have h9 : br < Wq.heap.size := (HOW.out _ e.symm).2; omega)) hz8)
                    clear hown8 hg8 hat8 S8 hoC hrdC howC hkp
                    go_wp2_with fail
                    go_meet
                    exact ⟨v8, w8, rfl, rfl, HO8.out, HVB8.out, HB8.out, HL8.out, HBl8.out, HBr8.out⟩
                  case rest =>
                    obtain ⟨v8, w8, rfl, rfl, HO8, hvb8, HB8, HL8, HBl8, HBr8⟩ := hcut
                    clear HBl HBr HB6 HO6 HL6 HSK HSW HWB HCL HCR HQC HOW
                    obtain ⟨b0, b1⟩ := HBl8.out.two
                    obtain ⟨c0, c1⟩ := HBr8.out.two
                    obtain ⟨e0, e1⟩ := (bx_at HL8.out hu).two
                    obtain ⟨f0, f1⟩ := (bx_at HL8.out hv).two
                    rw [Nat.zero_add] at e0 e1 f0 f1
                    have hfz := HL8.out.2.1
                    have hwbo : w.heap.size ≤ bo := by omega
                    have HL9 := Lib.hid (bx_swap HL8.out HLL.out HPE.out).drew
                    have HO9 := Lib.hid (own_far (own_far (own_far (own_far HO8.out (p := ⟨bo, p * 2, none⟩) hvb8.out (.int .i64 v1)) (p := ⟨bo, p * 2 + 1, none⟩) hvb8.out (.int .i64 v2)) (p := ⟨bo, (p + 1) * 2, none⟩) hvb8.out (.int .i64 u1)) (p := ⟨bo, (p + 1) * 2 + 1, none⟩) hvb8.out (.int .i64 u2))
                    have HB9 := Lib.hid ((((HB8.out.setCell (p := ⟨bo, p * 2, none⟩) hwbo (.int .i64 v1)).setCell (p := ⟨bo, p * 2 + 1, none⟩) hwbo (.int .i64 v2)).setCell (p := ⟨bo, (p + 1) * 2, none⟩) hwbo (.int .i64 u1)).setCell (p := ⟨bo, (p + 1) * 2 + 1, none⟩) hwbo (.int .i64 u2)).drew
                    have hln9 : (P ++ (v1, v2) :: (u1, u2) :: T).length = N := by rw [← hLN, HLL.out]; simp
                    have hac9 : (acc ++ crEs (crL (q : Int) su sv (1))).length ≤ 16 * (k + 1) := by rw [List.length_append]; have := HLEN.out; omega
                    clear HO8 HB8 HL8
                    go_wp2
                    go_region
                    go_wp2
                    exact ⟨⟨k + 1, P ++ (v1, v2) :: (u1, u2) :: T, acc ++ crEs (crL (q : Int) su sv (1)), by omega, by go_num, HO9.out, hac9, hln9, HNDS, by rw [hfk]; exact HDN2, HL9, hvb8, HB9⟩, by simp [intOf]; omega⟩
    · have HD := Lib.hid (show Y = acc by rw [hd.out, show W - k = 0 by omega]; simp [rkG, crEs])
      clear hd
      go_wp2
      go_ret
      exact ⟨_, rfl, by rw [HD.out]; exact OwC.of_own HO.out, hb.out⟩

end Go.Proofs.YthhpjgdeehcgjaaGreat
