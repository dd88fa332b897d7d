/-
  Texts joined: Bks1, Bks2.
-/
import Derived.Test.YtccdnmafakaleaaGreatDoorPk4
import Derived.Test.YtccdnmafakaleaaGreatDoorPk6
import Derived.Deep.AppendLies
import Derived.Deep.RegionLaw
import Derived.Test.YtccdnmafakaleaaGreatDoorPk3
/-
  The blocks of events, of the program.
-/
namespace Go.Proofs.YtccdnmafakaleaaGreatDoor
set_option linter.unusedVariables false
set_option linter.unusedSimpArgs false
open Go.RowKit

theorem info_blk : (Tryz.prog.info? 41).map (fun i => (i.zero, i.size, i.bytes)) = some (some (.agg #[.int .i64 0, .slice none 0 0, .slice none 0 0]), 3, 56) := by kernel_rfl
def GivesBl (w : World) (l : List Ev) (e : Ending) (w' : World) : Prop := ∃ v, e = .returned (.tuple #[v, .int .i64 (bksC l)]) ∧ OwBl w' w.heap.size w'.heap.size v (bksL l) ∧ Below w.heap.size w w'
theorem GivesBl.no {w w' : World} {l : List Ev} (h : bksL l = [] ∧ bksC l = 5) (hb : Below w.heap.size w w') : GivesBl w l (.returned (.tuple #[.slice none 0 0, .int .i64 5])) w' := by
  refine ⟨_, by rw [h.2], ?_, hb⟩
  rw [h.1]
  exact OwBl.nil hb.size

set_option maxHeartbeats 8000000 in
set_option maxRecDepth 100000 in
theorem blocks_any (v : Value) (l : List Ev) (w : World) (hl : RdE w w.heap.size v l) (hok : okEvs l = true) :
    Calls Tryz.prog 26 #[v] w (GivesBl w l) := by
  obtain ⟨hcnt, hN⟩ := okEvs_cnt' hok
  obtain ⟨A, N, c, rfl, hln, hl', gl⟩ := hl
  have HL := Lib.hid gl
  have HLN := Lib.hid hl'.out
  have hN2 : N ≤ 2000 := by have := hl'.out; omega
  generalize hR : bkGo 0 [] [⟨⟨0, []⟩, []⟩] l = R
  have HNO := Lib.hid (fun (h : R = none) => bks_none (bkO_none hR h))
  have HMA := Lib.hid (fun (n : Int) (word : List Int) (o : List Bk) (k : Nat) (h : R = bkGo n word o (l.drop k)) (hl : 60 < o.length) => bks_none (bkO_many hR h hl))
  have HYES := Lib.hid (fun (o : List Bk) (h : R = some o) (ho : o.length ≤ 60) => bks_some (bkO_some hR h ho))
  have HR0 := Lib.hid (show R = bkGo 0 (red []) [⟨⟨0, []⟩, []⟩] (l.drop 0) by rw [← hR]; rfl)
  have HCN := Lib.hid hcnt
  obtain ⟨i0, hi, hz0, hz1, hz2⟩ := info_parts info_int
  obtain ⟨ib, hib, hb0, hb1, hb2⟩ := info_parts info_blk
  obtain ⟨ie, hie, he0, he1, he2⟩ := info_parts info_ev
  have HST : Hid (∃ S xs, Bld (Spot.none_ 45 6) ((w.alloc (.cells #[.int .i64 0, .slice none 0 0, .slice none 0 0] 41)).alloc (.cells #[] 2)) w.heap.size (.slice (some ⟨w.heap.size, 0, none⟩) 1 1) (.slice (some ⟨w.heap.size + 1, 0, none⟩) 0 0) [⟨⟨0, []⟩, []⟩] [] S xs) := by
    obtain ⟨S, h⟩ := Bld.start (w := w.alloc (.cells #[.int .i64 0, .slice none 0 0, .slice none 0 0] 41)) (B := w.heap.size) (v := .slice (some ⟨w.heap.size, 0, none⟩) 1 1)
      ⟨rfl, .inr ⟨w.heap.size, 1, _, rfl, Nat.le_refl _, heap_alloc_new _ _, Nat.le_refl _, by unfold maxLen; omega, rfl, rfl⟩⟩
    obtain ⟨S', h'⟩ := h.newWord (u' := .slice (some ⟨w.heap.size + 1, 0, none⟩) 0 0) (word' := []) (w' := (w.alloc (.cells #[.int .i64 0, .slice none 0 0, .slice none 0 0] 41)).alloc (.cells #[] 2)) (by simp) ((Below.refl _ _).alloc (Nat.le_refl _) _)
      (by have := World.ownsRow_made (base := (w.alloc (.cells #[.int .i64 0, .slice none 0 0, .slice none 0 0] 41)).heap.size) (e := 2) (size := 1) (w.alloc (.cells #[.int .i64 0, .slice none 0 0, .slice none 0 0] 41)) #[] 0 (Nat.le_refl _) (by unfold maxLen; omega) rfl; simpa [vI] using this)
    exact ⟨S', _, h'⟩
  have HB0 := Lib.hid (show Below w.heap.size w ((w.alloc (.cells #[.int .i64 0, .slice none 0 0, .slice none 0 0] 41)).alloc (.cells #[] 2)) from ((Below.refl _ _).alloc (Nat.le_refl _) _).alloc (by simp) _)
  clear hl' gl hcnt hok hN
  clear hR
  go_enter Tryz.func26, Tryz.ntmps26
  go_wp2
  go_loopw [4, 5, 6, 7] (fun v nn u i wr => ∃ (k : Nat) (m : Int) (H : List Bk) (wd : List Int), k ≤ N + 1 ∧ i = .int .i64 k ∧ nn = .int .i64 m ∧ 0 ≤ m ∧ m ≤ 12 ∧ 0 < H.length ∧ H.length ≤ 60 ∧ wd.length ≤ k ∧ Hid (∃ S xs, Bld (Spot.none_ 45 6) wr w.heap.size v u H wd S xs) ∧ Hid (LetsN m.toNat wd) ∧ Hid (∀ x ∈ H, x.e.length ≤ k) ∧
    Hid (k ≤ N → R = bkGo m (red wd) H (l.drop k) ∧ (cntE m (l.drop k)).isSome = true) ∧ Hid (N < k → R = some H) ∧ Hid (Below w.heap.size w wr)) (fun _ _ _ i _ => N + 1 - (intOf i).toNat)
  case atStart => exact ⟨0, 0, [⟨⟨0, []⟩, []⟩], [], by omega, rfl, rfl, by omega, by omega, by simp, by simp, Nat.le_refl _, HST.out, LetsN.nil _, by simp [Hid], fun _ => ⟨HR0.out, HCN.out⟩, fun h => absurd h (by omega), HB0.out⟩
  case round =>
    rename_i wr
    obtain ⟨k, m, H, wd, hk, rfl, rfl, m0, m1, hH0, hH60, hwk, HBL0, HLW, HEL0, HR0', HRE, HB⟩ := hrel
    obtain ⟨S0, xs0, hbl0⟩ := HBL0.out
    obtain ⟨Au, cu, rfl⟩ := own_shape hbl0.wordRow
    obtain ⟨Av, cv, rfl⟩ := own_shape hbl0.row
    by_cases hkN : k ≤ N
    · obtain ⟨hr1, hcn1⟩ := HR0'.out hkN
      have HR1 := Lib.hid hr1
      have HCN1 := Lib.hid hcn1
      have hwsz := HB.out.size
      clear hr1 hcn1 HR0' HRE HST HR0 HB0 HCN
      by_cases hx1 : k < N ∧ ∃ x, l[k]? = some x ∧ x.k = 1
      · -- a crossing
        obtain ⟨hlt, x, hlx, hxk⟩ := hx1
        obtain ⟨b, off, x', rfl, hbb, hlk, hcc⟩ := HL.out k hlt
        have hxx : x' = x := by rw [hlk] at hlx; injection hlx
        subst hxx
        obtain ⟨hv, ha, hcn2⟩ := cnt_at HCN1.out hlk
        obtain ⟨hltr, hp0, hp1, hc1⟩ := letE_ltr m1 hv hxk
        obtain ⟨hw1, hw2⟩ := letX_rng m1 hv hxk
        have haf : aftE m x' = m := by simp [aftE, hxk]
        rw [haf] at hcn2
        have HNX := Lib.hid (bk_cross HR1.out hlk hxk)
        have HCN2 := Lib.hid hcn2
        have HLW2 := Lib.hid (HLW.out.snoc hltr)
        have hcw := hcc.below HB.out hbb
        have HO := Lib.hid hbl0.wordRow
        have HAP := Lib.hid (fun (w' : World) (u' : Value) h1 h2 h3 => (hbl0.alloc (.cells #[.int .i64 (letX x')] 2)).drew.letter (w' := w') (u' := u') (x := letX x') h1 h2 h3)
        obtain ⟨c0, c1, c2, -, -, -⟩ := hcw.six
        have hk1 : (x'.k == 1) = true := by simp [hxk]
        have hog : ∀ g, (Value.slice Au wd.length cu).ownBlock = some g → w.heap.size ≤ g := fun g hg => (HO.out.lt g hg).1
        have HRED := Lib.hid (red_snoc wd (letX x'))
        clear hcw hcc hlk hlx hv ha haf hcn2 hltr hbl0 hxk hc1
        go_wp2_with fail
        go_region_law ((refine step_append_lies _ (by rfl) _ _ _ (by rfl) w.heap.size 2 i0 _ 1 8 Tryz.underlying37 hi hz0 hz1 hz2 rfl (by omega) (.slice Au wd.length cu) wd.length (vI wd) (by rfl) ((HO.out.alloc _).drew) ⟨wr.heap.size, 0, none⟩ 1 1 [.int .i64 (letX x')] (by rfl) (by rfl) (World.news_of_block (cs := #[.int .i64 (letX x')]) (t := 2) (fr := (0, 0)) (heap_alloc_new wr _)) (by simp [Value.oneCell']) (by omega) (by unfold maxLen; omega) (by omega) (by simp; omega) (wr.heap.size + 1) (by simp) ?_; intro gg cap w3 hown3 hgrow hat hlt3))
        all_goals
          (have HL3 := Lib.hid (HAP.out w3 _ hown3 hgrow (hat.elim (fun h => .inl h.symm) (fun h => .inr (by rw [h]; simp [Value.ownBlock]))))
           have HB3 := Lib.hid (((HB.out.alloc hwsz (.cells #[.int .i64 (letX x')] 2)).drew).grown hgrow (by simp; omega) hog)
           clear hown3 hgrow hat hlt3 c0 c1 c2
           go_wp2
           refine ⟨⟨k + 1, m, H, wd ++ [letX x'], by omega, by go_num, rfl, m0, m1, hH0, hH60, by simp; omega, ?_, HLW2.out, fun x hx => by have := HEL0.out x hx; omega, fun _ => ⟨by rw [HRED.out]; exact HNX.out, HCN2.out⟩, fun h => absurd h (by omega), HB3.out⟩, by simp [intOf]; omega⟩
           obtain ⟨S3, h3⟩ := HL3.out
           exact ⟨S3, _, h3⟩)
      · have hx2 : ∀ x, l[k]? = some x → x.k ≠ 1 := fun x hx hk1 => by
          by_cases hlt : k < N
          · exact hx1 ⟨hlt, x, hx, hk1⟩
          · have := (List.getElem?_eq_some_iff.1 hx).1; have := HLN.out; omega
        have HX2 := Lib.hid hx2
        clear hx1 hx2
        have hbd := HLW.out.bd (n := m.toNat) (by omega)
        have HQR := Lib.hid (reduced_any _ wd wr (RdI.of_own (OwC.of_own hbl0.wordRow)) hbd (by omega))
        have HBL1 := Lib.hid hbl0
        have hrl := red_len wd
        have HLR := Lib.hid HLW.out.red
        have hmn : ((m.toNat : Nat) : Int) = m := by omega
        have HQE := fun (v1 : Value) (w1 : World) (hv1 : RdI w1 w1.heap.size v1 (red wd)) => equalWords_any m.toNat (by omega) (red wd) [] HLR.out (LetsN.nil _) (by omega) (by simp) v1 (.slice none 0 0) w1 hv1 ⟨none, 0, 0, rfl, by omega, rfl, fun k hk => absurd hk (by omega)⟩
        rw [hmn] at HQE
        have HQE' := Lib.hid HQE
        clear HQE hbl0 hbd HLW hmn
        generalize hred : red wd = rw at *
        have HRED := Lib.hid hred
        clear hred
        by_cases hlt : k < N
        · obtain ⟨b, off, x, rfl, hbb, hlk, hcc⟩ := HL.out k hlt
          obtain ⟨hv, ha, hcn2⟩ := cnt_at HCN1.out hlk
          have hab := aft_bounds m0 m1 hv
          have HAFT := Lib.hid (show 0 ≤ aftE m x ∧ aftE m x ≤ 12 ∧ _ from ⟨hab.1, ha, hcn2⟩)
          have HVX := Lib.hid hv
          have HXK := Lib.hid (HX2.out x hlk)
          have hk1 : (x.k == 1) = false := by have := HXK.out; simpa using this
          have HLK := Lib.hid hlk
          have HCX := Lib.hid hcc
          obtain ⟨c0, -, -, -, -, -⟩ := (hcc.below HB.out hbb).six
          clear hv ha hcn2 hab hlk hcc
          -- a braid closes
          go_wp2_with fail
          refine HQR.out.mono ?_
          rintro e w1 ⟨v1, rfl, ho1, hb1⟩
          have HBB1 := Lib.hid (HB.out.trans (hb1.mono hwsz))
          have HBN1 : Hid (∃ S xs, Bld (Spot.none_ 45 6) w1 w.heap.size (.slice Av H.length cv) v1 H rw S xs) := by
            obtain ⟨S1, h1⟩ := HBL1.out.newWord hwsz hb1 ho1
            exact ⟨S1, _, h1⟩
          have HRD1 := Lib.hid ((RdI.of_own (OwC.of_own ho1)))
          obtain ⟨A1, cc1, rfl⟩ := own_shape ho1
          have zz1 := HBB1.out.size
          clear ho1 hb1 HQR HBL1
          by_cases h40 : 40 < rw.length
          · have HE := Lib.hid (HNO.out (bk_none HR1.out (fun e he => HX2.out e he) (clB_full h40)))
            have h40' : (40 : Int) < (rw.length : Int) := by omega
            go_wp2
            go_ret2
            exact GivesBl.no HE.out HBB1.out
          have h40' : ¬ (40 : Int) < (rw.length : Int) := by omega
          by_cases hr0 : rw = []
          · have HCL : Hid (clB m rw H = some H) := by unfold Hid; rw [hr0]; exact clB_nil m H
            have hrl0 : rw.length = 0 := by rw [hr0]; rfl
            have HBL : Hid (∃ (So : Nat → Spot) (xso : List Value), Bld (Spot.none_ 45 6) w1 w.heap.size (.slice Av H.length cv) (.slice A1 rw.length cc1) H rw So xso) := HBN1.out
            have HRW := Lib.hid hr0
            have HRL := Lib.hid hrl0
            rw [hrl0]
            clear hr0 hrl0 h40' h40 HBN1 HRD1
            obtain ⟨o, rfl⟩ : ∃ x, x = H := ⟨_, rfl⟩
            obtain ⟨Ao, rfl⟩ : ∃ x, x = Av := ⟨_, rfl⟩
            obtain ⟨co, rfl⟩ : ∃ x, x = cv := ⟨_, rfl⟩
            obtain ⟨wq, rfl⟩ : ∃ x, x = w1 := ⟨_, rfl⟩
            obtain ⟨ho0, ho60⟩ := And.intro hH0 hH60
            have HBQ := HBB1
            have HEL := HEL0
            -- the tail of a round of blocks: a stitch behind the last block
            obtain ⟨So, xso, hbo⟩ := HBL.out
            obtain ⟨Sn, hbn⟩ := hbo.noWord
            obtain ⟨q, hq⟩ : ∃ q, o.length = q + 1 := ⟨o.length - 1, by omega⟩
            obtain ⟨go, cap, y, t, hv, hgo0, hgo1, hy, hty, hto, hct, hfz, htg, hnc⟩ := hbn.last ho0
            injection hv with hv1 hv2 hv3
            subst hv1
            rw [← hv3] at hnc
            clear hv3
            have hyl : y.e.length ≤ 2001 := by have := HEL.out y (List.mem_of_getElem? hy); omega
            have hcq := HCX.out.below HBQ.out hbb
            obtain ⟨c0, c1, c2, c3, c4, c5⟩ := hcq.six
            have HCQ := Lib.hid hcq
            have hblt : b < wq.heap.size := Nat.lt_of_lt_of_le hbb HBQ.out.size
            have hbg : b ≠ go := by omega
            have htb : ∀ g, t.ownBlock = some g → w.heap.size ≤ g := fun g hg => (hto.lt g hg).1
            have htn : t.ownBlock ≠ some b := fun e => by have := htb _ e; omega
            have HTO := Lib.hid hto
            have HBN := Lib.hid hbn
            have HAP := Lib.hid (fun (w' : World) (t' : Value) h1 h2 h3 => (hbn.alloc (.cells #[.int .i64 x.k, .int .i64 x.p, .int .i64 x.c, .int .i64 x.b, .int .i64 x.y, .int .i64 x.d] 45)).drew.stitch (w' := w') (t' := t') (e := x) ho0 hy hty h1 h2 h3)
            have HALEN := Lib.hid (addE_len o x)
            have HRN := Lib.hid (bk_some (HR1.out) HLK.out HXK.out HCL.out)
            have HEL2 := Lib.hid (addE_elen (e := x) HEL.out)
            simp only [hq, Nat.add_sub_cancel] at hct HAP HALEN hnc ⊢
            have hfq := hfz (q * 3 + 2)
            have hq60 : q + 1 ≤ 60 := by omega
            clear hbo hbn hto hcq hv2 hy hty HBL HEL ho0 ho60
            generalize y.e.length = yl at *
            go_wp2_with fail
            go_region_law ((refine step_append_lies _ (by rfl) _ _ _ (by rfl) w.heap.size 45 ie _ 6 48 Tryz.underlying26 hie he0 he1 he2 rfl (by omega) t yl (vE y.e) (by rfl) ((HTO.out.alloc _).drew) ⟨wq.heap.size, 0, none⟩ 1 1 x.cells (by rfl) (by rfl) (World.news_of_block (cs := #[.int .i64 x.k, .int .i64 x.p, .int .i64 x.c, .int .i64 x.b, .int .i64 x.y, .int .i64 x.d]) (t := 45) (fr := (0, 0)) (heap_alloc_new wq _)) (by simp [Value.oneCell']) (by omega) (by unfold maxLen; omega) (by omega) (by have := HBQ.out.size; simp; omega) (wq.heap.size + 1) (by simp) ?_; intro gg cap3 w3 hown3 hgrow hat hlt; have y13 : w3.cell? ⟨go, q * 3 + 2, none⟩ = some t := (hgrow.cell_far ⟨go, q * 3 + 2, none⟩ (by simp; omega) (Ne.symm htg)).trans ((((Below.refl wq.heap.size wq).alloc (Nat.le_refl _) _).cell (p := ⟨go, q * 3 + 2, none⟩) hgo1).trans hct); have f13 : w3.frozen? ⟨go, q * 3 + 2, none⟩ = false := (hgrow.frozen_far ⟨go, q * 3 + 2, none⟩ (by simp; omega) (Ne.symm htg)).trans ((((Below.refl wq.heap.size wq).alloc (Nat.le_refl _) _).frozen (p := ⟨go, q * 3 + 2, none⟩) hgo1).trans hfq)))
            all_goals
              (have HS3 := Lib.hid (HAP.out w3 (.slice (some ⟨gg, 0, none⟩) (yl + 1) cap3) hown3 hgrow (hat.elim (fun h => .inl h.symm) (fun h => .inr (by rw [h]; simp [Value.ownBlock]))))
               have HB3 := Lib.hid ((((HBQ.out.alloc HBQ.out.size (.cells #[.int .i64 x.k, .int .i64 x.p, .int .i64 x.c, .int .i64 x.b, .int .i64 x.y, .int .i64 x.d] 45)).drew).grown hgrow (by have := HBQ.out.size; simp; omega) htb).setCell (p := ⟨go, q * 3 + 2, none⟩) hgo0 (.slice (some ⟨gg, 0, none⟩) (yl + 1) cap3))
               obtain ⟨d0, d1, d2, d3, d4, d5⟩ := (HCX.out.below HB3.out hbb).six
               have HQA := Lib.hid (after_any x m m0 m1 HVX.out (w3.setCell ⟨go, q * 3 + 2, none⟩ (.slice (some ⟨gg, 0, none⟩) (yl + 1) cap3)))
               clear hown3 hgrow hat hlt y13 f13 hct c0 c1 c2 c3 c4 c5
               go_wp2_with fail
               refine HQA.out.mono ?_
               rintro e w5 ⟨rfl, hb5⟩
               have HB5 := Lib.hid (HB3.out.trans (hb5.mono HB3.out.size))
               have HS5 : Hid (∃ S xs, Bld (Spot.none_ 45 6) w5 w.heap.size (.slice (some ⟨go, 0, none⟩) (addE o x).length co) (.slice none 0 0) (addE o x) [] S xs) := by
                 obtain ⟨S5, xs5, h5⟩ := HS3.out
                 rw [HALEN.out]
                 exact ⟨S5, xs5, h5.below hb5⟩
               clear hb5 d0 d1 d2 d3 d4 d5
               rw [HALEN.out] at HS5
               go_wp2
               exact ⟨⟨k + 1, aftE m x, addE o x, [], by omega, by go_num, rfl, HAFT.out.1, HAFT.out.2.1, by rw [HALEN.out]; omega, by rw [HALEN.out]; omega, by simp, HS5.out, LetsN.nil _, HEL2.out, fun _ => ⟨HRN.out, HAFT.out.2.2⟩, fun h => absurd h (by omega), HB5.out⟩, by simp [intOf]; omega⟩)
          have hrp : 0 < rw.length := List.length_pos_iff.2 hr0
          have hrp' : (0 : Int) < (rw.length : Int) := by omega
          have HHQ := Lib.hid (HQE'.out _ w1 HRD1.out)
          clear hr0
          cases hE : eqW m.toNat rw []
          · have HCL0 := Lib.hid (clB_push (o := H) h40 hE)
            rw [hE] at HHQ
            clear hE
            have hol : (H ++ [⟨⟨m, rw⟩, []⟩] : List Bk).length = H.length + 1 := by simp
            by_cases h60 : H.length = 60
            · have HE := Lib.hid (show bksL l = [] ∧ bksC l = 5 from by
                by_cases hkl : k < N
                · have hlx : l[k]? = some (l[k]'(by have := HLN.out; omega)) := List.getElem?_eq_getElem _
                  exact HMA.out _ _ _ _ (bk_some HR1.out hlx (HX2.out _ hlx) HCL0.out) (by rw [addE_len]; omega)
                · have hre := (bk_end HR1.out (by have := HLN.out; omega)).trans HCL0.out
                  exact HMA.out m [] _ l.length (by rw [List.drop_length, bkGo, clB_nil]; exact hre) (by omega))
              clear hol
              go_wp2_with fail
              refine HHQ.out.mono ?_
              rintro e w2 ⟨rfl, hb2⟩
              have HBB2 := Lib.hid (HBB1.out.trans (hb2.mono zz1))
              clear hb2
              go_wp2
              go_ret2
              exact GivesBl.no HE.out HBB2.out
            · have h60' : ((H.length : Int) == 60) = false := by simp; omega
              have ho60 : H.length + 1 ≤ 60 := by omega
              have HEL := Lib.hid (clB_elen HCL0.out HEL0.out)
              obtain ⟨Sb, xsb, hbb1⟩ := HBN1.out
              have HBN2 := Lib.hid hbb1
              clear h60 hbb1 HBN1
              go_wp2_with fail
              refine HHQ.out.mono ?_
              rintro e w2 ⟨rfl, hb2⟩
              have HBB2 := Lib.hid (HBB1.out.trans (hb2.mono zz1))
              have HBN3 := Lib.hid (HBN2.out.below hb2)
              have HROW := Lib.hid HBN3.out.row
              have zz2 := HBB2.out.size
              clear hb2
              go_wp2_with (at_builtin; refine wpList_append_own_at _ rfl _ _ 32 rfl w.heap.size 41 ib _ 3 56 Tryz.underlying32 hib hb0 hb1 hb2 rfl (by decide) _ _ _ rfl (HROW.out.alloc _) ⟨w2.heap.size, 0, none⟩ 1 1 [.int .i64 m, .slice A1 rw.length cc1, .slice none 0 0] rfl rfl ?c1 ?c2 ?c3 ?c4 ?c5 ?_)
              case c1 => exact new_cells' _ _ rfl
              case c2 => intro u hu; simp at hu; rcases hu with rfl | rfl | rfl <;> rfl
              case c3 => unfold maxLen; omega
              case c4 => omega
              case c5 => simp; omega
              intro v3 w3 hown3 hg3 _ hat3
              have HBL0 := Lib.hid ((HBN3.out.alloc (.cells #[.int .i64 m, .slice A1 rw.length cc1, .slice none 0 0] 41)).push (n := m) hown3 hg3 (by simpa using hat3))
              have HBQ := Lib.hid ((HBB2.out.alloc zz2 (.cells #[.int .i64 m, .slice A1 rw.length cc1, .slice none 0 0] 41)).grown hg3 (by simp; omega) (fun g hg => (HROW.out.lt g hg).1))
              clear hown3 hg3 hat3 HROW HBN3 HBN2 h60'
              obtain ⟨wq, rfl⟩ : ∃ x, x = w3 := ⟨_, rfl⟩
              generalize hoe : (H ++ [⟨⟨m, rw⟩, []⟩] : List Bk) = o at *
              clear hoe
              have ho0 : 0 < o.length := by omega
              rw [← hol] at ho60
              obtain ⟨Ao, co, rfl⟩ : ∃ Ao co, v3 = .slice Ao o.length co := by
                obtain ⟨S3, h3⟩ := HBL0.out
                exact own_shape h3.row
              have HCL := HCL0
              have HBL : Hid (∃ (So : Nat → Spot) (xso : List Value), Bld (Spot.none_ 45 6) wq w.heap.size (.slice Ao o.length co) (.slice none 0 0) o [] So xso) := by
                obtain ⟨S3, h3⟩ := HBL0.out
                exact ⟨S3, _, h3⟩
              clear HBL0 hol h40' h40
              -- the tail of a round of blocks: a stitch behind the last block
              obtain ⟨So, xso, hbo⟩ := HBL.out
              obtain ⟨Sn, hbn⟩ := hbo.noWord
              obtain ⟨q, hq⟩ : ∃ q, o.length = q + 1 := ⟨o.length - 1, by omega⟩
              obtain ⟨go, cap, y, t, hv, hgo0, hgo1, hy, hty, hto, hct, hfz, htg, hnc⟩ := hbn.last ho0
              injection hv with hv1 hv2 hv3
              subst hv1
              rw [← hv3] at hnc
              clear hv3
              have hyl : y.e.length ≤ 2001 := by have := HEL.out y (List.mem_of_getElem? hy); omega
              have hcq := HCX.out.below HBQ.out hbb
              obtain ⟨c0, c1, c2, c3, c4, c5⟩ := hcq.six
              have HCQ := Lib.hid hcq
              have hblt : b < wq.heap.size := Nat.lt_of_lt_of_le hbb HBQ.out.size
              have hbg : b ≠ go := by omega
              have htb : ∀ g, t.ownBlock = some g → w.heap.size ≤ g := fun g hg => (hto.lt g hg).1
              have htn : t.ownBlock ≠ some b := fun e => by have := htb _ e; omega
              have HTO := Lib.hid hto
              have HBN := Lib.hid hbn
              have HAP := Lib.hid (fun (w' : World) (t' : Value) h1 h2 h3 => (hbn.alloc (.cells #[.int .i64 x.k, .int .i64 x.p, .int .i64 x.c, .int .i64 x.b, .int .i64 x.y, .int .i64 x.d] 45)).drew.stitch (w' := w') (t' := t') (e := x) ho0 hy hty h1 h2 h3)
              have HALEN := Lib.hid (addE_len o x)
              have HRN := Lib.hid (bk_some (HR1.out) HLK.out HXK.out HCL.out)
              have HEL2 := Lib.hid (addE_elen (e := x) HEL.out)
              simp only [hq, Nat.add_sub_cancel] at hct HAP HALEN hnc ⊢
              have hfq := hfz (q * 3 + 2)
              have hq60 : q + 1 ≤ 60 := by omega
              clear hbo hbn hto hcq hv2 hy hty HBL HEL ho0 ho60
              generalize y.e.length = yl at *
              go_wp2_with fail
              go_region_law ((refine step_append_lies _ (by rfl) _ _ _ (by rfl) w.heap.size 45 ie _ 6 48 Tryz.underlying26 hie he0 he1 he2 rfl (by omega) t yl (vE y.e) (by rfl) ((HTO.out.alloc _).drew) ⟨wq.heap.size, 0, none⟩ 1 1 x.cells (by rfl) (by rfl) (World.news_of_block (cs := #[.int .i64 x.k, .int .i64 x.p, .int .i64 x.c, .int .i64 x.b, .int .i64 x.y, .int .i64 x.d]) (t := 45) (fr := (0, 0)) (heap_alloc_new wq _)) (by simp [Value.oneCell']) (by omega) (by unfold maxLen; omega) (by omega) (by have := HBQ.out.size; simp; omega) (wq.heap.size + 1) (by simp) ?_; intro gg cap3 w3 hown3 hgrow hat hlt; have y13 : w3.cell? ⟨go, q * 3 + 2, none⟩ = some t := (hgrow.cell_far ⟨go, q * 3 + 2, none⟩ (by simp; omega) (Ne.symm htg)).trans ((((Below.refl wq.heap.size wq).alloc (Nat.le_refl _) _).cell (p := ⟨go, q * 3 + 2, none⟩) hgo1).trans hct); have f13 : w3.frozen? ⟨go, q * 3 + 2, none⟩ = false := (hgrow.frozen_far ⟨go, q * 3 + 2, none⟩ (by simp; omega) (Ne.symm htg)).trans ((((Below.refl wq.heap.size wq).alloc (Nat.le_refl _) _).frozen (p := ⟨go, q * 3 + 2, none⟩) hgo1).trans hfq)))
              all_goals
                (have HS3 := Lib.hid (HAP.out w3 (.slice (some ⟨gg, 0, none⟩) (yl + 1) cap3) hown3 hgrow (hat.elim (fun h => .inl h.symm) (fun h => .inr (by rw [h]; simp [Value.ownBlock]))))
                 have HB3 := Lib.hid ((((HBQ.out.alloc HBQ.out.size (.cells #[.int .i64 x.k, .int .i64 x.p, .int .i64 x.c, .int .i64 x.b, .int .i64 x.y, .int .i64 x.d] 45)).drew).grown hgrow (by have := HBQ.out.size; simp; omega) htb).setCell (p := ⟨go, q * 3 + 2, none⟩) hgo0 (.slice (some ⟨gg, 0, none⟩) (yl + 1) cap3))
                 obtain ⟨d0, d1, d2, d3, d4, d5⟩ := (HCX.out.below HB3.out hbb).six
                 have HQA := Lib.hid (after_any x m m0 m1 HVX.out (w3.setCell ⟨go, q * 3 + 2, none⟩ (.slice (some ⟨gg, 0, none⟩) (yl + 1) cap3)))
                 clear hown3 hgrow hat hlt y13 f13 hct c0 c1 c2 c3 c4 c5
                 go_wp2_with fail
                 refine HQA.out.mono ?_
                 rintro e w5 ⟨rfl, hb5⟩
                 have HB5 := Lib.hid (HB3.out.trans (hb5.mono HB3.out.size))
                 have HS5 : Hid (∃ S xs, Bld (Spot.none_ 45 6) w5 w.heap.size (.slice (some ⟨go, 0, none⟩) (addE o x).length co) (.slice none 0 0) (addE o x) [] S xs) := by
                   obtain ⟨S5, xs5, h5⟩ := HS3.out
                   rw [HALEN.out]
                   exact ⟨S5, xs5, h5.below hb5⟩
                 clear hb5 d0 d1 d2 d3 d4 d5
                 rw [HALEN.out] at HS5
                 go_wp2
                 exact ⟨⟨k + 1, aftE m x, addE o x, [], by omega, by go_num, rfl, HAFT.out.1, HAFT.out.2.1, by rw [HALEN.out]; omega, by rw [HALEN.out]; omega, by simp, HS5.out, LetsN.nil _, HEL2.out, fun _ => ⟨HRN.out, HAFT.out.2.2⟩, fun h => absurd h (by omega), HB5.out⟩, by simp [intOf]; omega⟩)
          · have HCL := Lib.hid (clB_triv (o := H) h40 hE)
            rw [hE] at HHQ
            clear hE
            have HBL0 := HBN1
            clear HBN1
            go_wp2_with fail
            refine HHQ.out.mono ?_
            rintro e w2 ⟨rfl, hb2⟩
            have HBQ := Lib.hid (HBB1.out.trans (hb2.mono zz1))
            have HBL : Hid (∃ (So : Nat → Spot) (xso : List Value), Bld (Spot.none_ 45 6) w2 w.heap.size (.slice Av H.length cv) (.slice A1 rw.length cc1) H rw So xso) := by
              obtain ⟨S3, xs3, h3⟩ := HBL0.out
              exact ⟨S3, xs3, h3.below hb2⟩
            clear hb2 HBL0 h40' h40
            obtain ⟨o, rfl⟩ : ∃ x, x = H := ⟨_, rfl⟩
            obtain ⟨Ao, rfl⟩ : ∃ x, x = Av := ⟨_, rfl⟩
            obtain ⟨co, rfl⟩ : ∃ x, x = cv := ⟨_, rfl⟩
            obtain ⟨wq, rfl⟩ : ∃ x, x = w2 := ⟨_, rfl⟩
            obtain ⟨ho0, ho60⟩ := And.intro hH0 hH60
            have HEL := HEL0
            -- the tail of a round of blocks: a stitch behind the last block
            obtain ⟨So, xso, hbo⟩ := HBL.out
            obtain ⟨Sn, hbn⟩ := hbo.noWord
            obtain ⟨q, hq⟩ : ∃ q, o.length = q + 1 := ⟨o.length - 1, by omega⟩
            obtain ⟨go, cap, y, t, hv, hgo0, hgo1, hy, hty, hto, hct, hfz, htg, hnc⟩ := hbn.last ho0
            injection hv with hv1 hv2 hv3
            subst hv1
            rw [← hv3] at hnc
            clear hv3
            have hyl : y.e.length ≤ 2001 := by have := HEL.out y (List.mem_of_getElem? hy); omega
            have hcq := HCX.out.below HBQ.out hbb
            obtain ⟨c0, c1, c2, c3, c4, c5⟩ := hcq.six
            have HCQ := Lib.hid hcq
            have hblt : b < wq.heap.size := Nat.lt_of_lt_of_le hbb HBQ.out.size
            have hbg : b ≠ go := by omega
            have htb : ∀ g, t.ownBlock = some g → w.heap.size ≤ g := fun g hg => (hto.lt g hg).1
            have htn : t.ownBlock ≠ some b := fun e => by have := htb _ e; omega
            have HTO := Lib.hid hto
            have HBN := Lib.hid hbn
            have HAP := Lib.hid (fun (w' : World) (t' : Value) h1 h2 h3 => (hbn.alloc (.cells #[.int .i64 x.k, .int .i64 x.p, .int .i64 x.c, .int .i64 x.b, .int .i64 x.y, .int .i64 x.d] 45)).drew.stitch (w' := w') (t' := t') (e := x) ho0 hy hty h1 h2 h3)
            have HALEN := Lib.hid (addE_len o x)
            have HRN := Lib.hid (bk_some (HR1.out) HLK.out HXK.out HCL.out)
            have HEL2 := Lib.hid (addE_elen (e := x) HEL.out)
            simp only [hq, Nat.add_sub_cancel] at hct HAP HALEN hnc ⊢
            have hfq := hfz (q * 3 + 2)
            have hq60 : q + 1 ≤ 60 := by omega
            clear hbo hbn hto hcq hv2 hy hty HBL HEL ho0 ho60
            generalize y.e.length = yl at *
            go_wp2_with fail
            go_region_law ((refine step_append_lies _ (by rfl) _ _ _ (by rfl) w.heap.size 45 ie _ 6 48 Tryz.underlying26 hie he0 he1 he2 rfl (by omega) t yl (vE y.e) (by rfl) ((HTO.out.alloc _).drew) ⟨wq.heap.size, 0, none⟩ 1 1 x.cells (by rfl) (by rfl) (World.news_of_block (cs := #[.int .i64 x.k, .int .i64 x.p, .int .i64 x.c, .int .i64 x.b, .int .i64 x.y, .int .i64 x.d]) (t := 45) (fr := (0, 0)) (heap_alloc_new wq _)) (by simp [Value.oneCell']) (by omega) (by unfold maxLen; omega) (by omega) (by have := HBQ.out.size; simp; omega) (wq.heap.size + 1) (by simp) ?_; intro gg cap3 w3 hown3 hgrow hat hlt; have y13 : w3.cell? ⟨go, q * 3 + 2, none⟩ = some t := (hgrow.cell_far ⟨go, q * 3 + 2, none⟩ (by simp; omega) (Ne.symm htg)).trans ((((Below.refl wq.heap.size wq).alloc (Nat.le_refl _) _).cell (p := ⟨go, q * 3 + 2, none⟩) hgo1).trans hct); have f13 : w3.frozen? ⟨go, q * 3 + 2, none⟩ = false := (hgrow.frozen_far ⟨go, q * 3 + 2, none⟩ (by simp; omega) (Ne.symm htg)).trans ((((Below.refl wq.heap.size wq).alloc (Nat.le_refl _) _).frozen (p := ⟨go, q * 3 + 2, none⟩) hgo1).trans hfq)))
            all_goals
              (have HS3 := Lib.hid (HAP.out w3 (.slice (some ⟨gg, 0, none⟩) (yl + 1) cap3) hown3 hgrow (hat.elim (fun h => .inl h.symm) (fun h => .inr (by rw [h]; simp [Value.ownBlock]))))
               have HB3 := Lib.hid ((((HBQ.out.alloc HBQ.out.size (.cells #[.int .i64 x.k, .int .i64 x.p, .int .i64 x.c, .int .i64 x.b, .int .i64 x.y, .int .i64 x.d] 45)).drew).grown hgrow (by have := HBQ.out.size; simp; omega) htb).setCell (p := ⟨go, q * 3 + 2, none⟩) hgo0 (.slice (some ⟨gg, 0, none⟩) (yl + 1) cap3))
               obtain ⟨d0, d1, d2, d3, d4, d5⟩ := (HCX.out.below HB3.out hbb).six
               have HQA := Lib.hid (after_any x m m0 m1 HVX.out (w3.setCell ⟨go, q * 3 + 2, none⟩ (.slice (some ⟨gg, 0, none⟩) (yl + 1) cap3)))
               clear hown3 hgrow hat hlt y13 f13 hct c0 c1 c2 c3 c4 c5
               go_wp2_with fail
               refine HQA.out.mono ?_
               rintro e w5 ⟨rfl, hb5⟩
               have HB5 := Lib.hid (HB3.out.trans (hb5.mono HB3.out.size))
               have HS5 : Hid (∃ S xs, Bld (Spot.none_ 45 6) w5 w.heap.size (.slice (some ⟨go, 0, none⟩) (addE o x).length co) (.slice none 0 0) (addE o x) [] S xs) := by
                 obtain ⟨S5, xs5, h5⟩ := HS3.out
                 rw [HALEN.out]
                 exact ⟨S5, xs5, h5.below hb5⟩
               clear hb5 d0 d1 d2 d3 d4 d5
               rw [HALEN.out] at HS5
               go_wp2
               exact ⟨⟨k + 1, aftE m x, addE o x, [], by omega, by go_num, rfl, HAFT.out.1, HAFT.out.2.1, by rw [HALEN.out]; omega, by rw [HALEN.out]; omega, by simp, HS5.out, LetsN.nil _, HEL2.out, fun _ => ⟨HRN.out, HAFT.out.2.2⟩, fun h => absurd h (by omega), HB5.out⟩, by simp [intOf]; omega⟩)
        · skip
          -- a braid closes
          go_wp2_with fail
          refine HQR.out.mono ?_
          rintro e w1 ⟨v1, rfl, ho1, hb1⟩
          have HBB1 := Lib.hid (HB.out.trans (hb1.mono hwsz))
          have HBN1 : Hid (∃ S xs, Bld (Spot.none_ 45 6) w1 w.heap.size (.slice Av H.length cv) v1 H rw S xs) := by
            obtain ⟨S1, h1⟩ := HBL1.out.newWord hwsz hb1 ho1
            exact ⟨S1, _, h1⟩
          have HRD1 := Lib.hid ((RdI.of_own (OwC.of_own ho1)))
          obtain ⟨A1, cc1, rfl⟩ := own_shape ho1
          have zz1 := HBB1.out.size
          clear ho1 hb1 HQR HBL1
          by_cases h40 : 40 < rw.length
          · have HE := Lib.hid (HNO.out (bk_none HR1.out (fun e he => HX2.out e he) (clB_full h40)))
            have h40' : (40 : Int) < (rw.length : Int) := by omega
            go_wp2
            go_ret2
            exact GivesBl.no HE.out HBB1.out
          have h40' : ¬ (40 : Int) < (rw.length : Int) := by omega
          by_cases hr0 : rw = []
          · have HCL : Hid (clB m rw H = some H) := by unfold Hid; rw [hr0]; exact clB_nil m H
            have hrl0 : rw.length = 0 := by rw [hr0]; rfl
            have HBL : Hid (∃ (So : Nat → Spot) (xso : List Value), Bld (Spot.none_ 45 6) w1 w.heap.size (.slice Av H.length cv) (.slice A1 rw.length cc1) H rw So xso) := HBN1.out
            have HRW := Lib.hid hr0
            have HRL := Lib.hid hrl0
            rw [hrl0]
            clear hr0 hrl0 h40' h40 HBN1 HRD1
            obtain ⟨o, rfl⟩ : ∃ x, x = H := ⟨_, rfl⟩
            obtain ⟨Ao, rfl⟩ : ∃ x, x = Av := ⟨_, rfl⟩
            obtain ⟨co, rfl⟩ : ∃ x, x = cv := ⟨_, rfl⟩
            obtain ⟨wq, rfl⟩ : ∃ x, x = w1 := ⟨_, rfl⟩
            obtain ⟨ho0, ho60⟩ := And.intro hH0 hH60
            have HBQ := HBB1
            have HEL := HEL0
            -- the end of the last round of blocks
            have HS5 : Hid (∃ S xs, Bld (Spot.none_ 45 6) wq w.heap.size (.slice Ao o.length co) (.slice none 0 0) o [] S xs) := by
              obtain ⟨So, xso, hbo⟩ := HBL.out
              obtain ⟨Sn, hbn⟩ := hbo.noWord
              exact ⟨Sn, xso, hbn⟩
            have HRN := Lib.hid (show R = some o from (bk_end HR1.out (by rw [HLN.out]; omega)).trans HCL.out)
            go_wp2
            exact ⟨⟨k + 1, m, o, [], by omega, by go_num, rfl, m0, m1, ho0, ho60, by simp, HS5.out, LetsN.nil _, fun x hx => by have := HEL.out x hx; omega, fun h => absurd h (by omega), fun _ => HRN.out, HBQ.out⟩, by simp [intOf]; omega⟩
          have hrp : 0 < rw.length := List.length_pos_iff.2 hr0
          have hrp' : (0 : Int) < (rw.length : Int) := by omega
          have HHQ := Lib.hid (HQE'.out _ w1 HRD1.out)
          clear hr0
          cases hE : eqW m.toNat rw []
          · have HCL0 := Lib.hid (clB_push (o := H) h40 hE)
            rw [hE] at HHQ
            clear hE
            have hol : (H ++ [⟨⟨m, rw⟩, []⟩] : List Bk).length = H.length + 1 := by simp
            by_cases h60 : H.length = 60
            · have HE := Lib.hid (show bksL l = [] ∧ bksC l = 5 from by
                by_cases hkl : k < N
                · have hlx : l[k]? = some (l[k]'(by have := HLN.out; omega)) := List.getElem?_eq_getElem _
                  exact HMA.out _ _ _ _ (bk_some HR1.out hlx (HX2.out _ hlx) HCL0.out) (by rw [addE_len]; omega)
                · have hre := (bk_end HR1.out (by have := HLN.out; omega)).trans HCL0.out
                  exact HMA.out m [] _ l.length (by rw [List.drop_length, bkGo, clB_nil]; exact hre) (by omega))
              clear hol
              go_wp2_with fail
              refine HHQ.out.mono ?_
              rintro e w2 ⟨rfl, hb2⟩
              have HBB2 := Lib.hid (HBB1.out.trans (hb2.mono zz1))
              clear hb2
              go_wp2
              go_ret2
              exact GivesBl.no HE.out HBB2.out
            · have h60' : ((H.length : Int) == 60) = false := by simp; omega
              have ho60 : H.length + 1 ≤ 60 := by omega
              have HEL := Lib.hid (clB_elen HCL0.out HEL0.out)
              obtain ⟨Sb, xsb, hbb1⟩ := HBN1.out
              have HBN2 := Lib.hid hbb1
              clear h60 hbb1 HBN1
              go_wp2_with fail
              refine HHQ.out.mono ?_
              rintro e w2 ⟨rfl, hb2⟩
              have HBB2 := Lib.hid (HBB1.out.trans (hb2.mono zz1))
              have HBN3 := Lib.hid (HBN2.out.below hb2)
              have HROW := Lib.hid HBN3.out.row
              have zz2 := HBB2.out.size
              clear hb2
              go_wp2_with (at_builtin; refine wpList_append_own_at _ rfl _ _ 32 rfl w.heap.size 41 ib _ 3 56 Tryz.underlying32 hib hb0 hb1 hb2 rfl (by decide) _ _ _ rfl (HROW.out.alloc _) ⟨w2.heap.size, 0, none⟩ 1 1 [.int .i64 m, .slice A1 rw.length cc1, .slice none 0 0] rfl rfl ?c1 ?c2 ?c3 ?c4 ?c5 ?_)
              case c1 => exact new_cells' _ _ rfl
              case c2 => intro u hu; simp at hu; rcases hu with rfl | rfl | rfl <;> rfl
              case c3 => unfold maxLen; omega
              case c4 => omega
              case c5 => simp; omega
              intro v3 w3 hown3 hg3 _ hat3
              have HBL0 := Lib.hid ((HBN3.out.alloc (.cells #[.int .i64 m, .slice A1 rw.length cc1, .slice none 0 0] 41)).push (n := m) hown3 hg3 (by simpa using hat3))
              have HBQ := Lib.hid ((HBB2.out.alloc zz2 (.cells #[.int .i64 m, .slice A1 rw.length cc1, .slice none 0 0] 41)).grown hg3 (by simp; omega) (fun g hg => (HROW.out.lt g hg).1))
              clear hown3 hg3 hat3 HROW HBN3 HBN2 h60'
              obtain ⟨wq, rfl⟩ : ∃ x, x = w3 := ⟨_, rfl⟩
              generalize hoe : (H ++ [⟨⟨m, rw⟩, []⟩] : List Bk) = o at *
              clear hoe
              have ho0 : 0 < o.length := by omega
              rw [← hol] at ho60
              obtain ⟨Ao, co, rfl⟩ : ∃ Ao co, v3 = .slice Ao o.length co := by
                obtain ⟨S3, h3⟩ := HBL0.out
                exact own_shape h3.row
              have HCL := HCL0
              have HBL : Hid (∃ (So : Nat → Spot) (xso : List Value), Bld (Spot.none_ 45 6) wq w.heap.size (.slice Ao o.length co) (.slice none 0 0) o [] So xso) := by
                obtain ⟨S3, h3⟩ := HBL0.out
                exact ⟨S3, _, h3⟩
              clear HBL0 hol h40' h40
              -- the end of the last round of blocks
              have HS5 : Hid (∃ S xs, Bld (Spot.none_ 45 6) wq w.heap.size (.slice Ao o.length co) (.slice none 0 0) o [] S xs) := by
                obtain ⟨So, xso, hbo⟩ := HBL.out
                obtain ⟨Sn, hbn⟩ := hbo.noWord
                exact ⟨Sn, xso, hbn⟩
              have HRN := Lib.hid (show R = some o from (bk_end HR1.out (by rw [HLN.out]; omega)).trans HCL.out)
              go_wp2
              exact ⟨⟨k + 1, m, o, [], by omega, by go_num, rfl, m0, m1, ho0, ho60, by simp, HS5.out, LetsN.nil _, fun x hx => by have := HEL.out x hx; omega, fun h => absurd h (by omega), fun _ => HRN.out, HBQ.out⟩, by simp [intOf]; omega⟩
          · have HCL := Lib.hid (clB_triv (o := H) h40 hE)
            rw [hE] at HHQ
            clear hE
            have HBL0 := HBN1
            clear HBN1
            go_wp2_with fail
            refine HHQ.out.mono ?_
            rintro e w2 ⟨rfl, hb2⟩
            have HBQ := Lib.hid (HBB1.out.trans (hb2.mono zz1))
            have HBL : Hid (∃ (So : Nat → Spot) (xso : List Value), Bld (Spot.none_ 45 6) w2 w.heap.size (.slice Av H.length cv) (.slice A1 rw.length cc1) H rw So xso) := by
              obtain ⟨S3, xs3, h3⟩ := HBL0.out
              exact ⟨S3, xs3, h3.below hb2⟩
            clear hb2 HBL0 h40' h40
            obtain ⟨o, rfl⟩ : ∃ x, x = H := ⟨_, rfl⟩
            obtain ⟨Ao, rfl⟩ : ∃ x, x = Av := ⟨_, rfl⟩
            obtain ⟨co, rfl⟩ : ∃ x, x = cv := ⟨_, rfl⟩
            obtain ⟨wq, rfl⟩ : ∃ x, x = w2 := ⟨_, rfl⟩
            obtain ⟨ho0, ho60⟩ := And.intro hH0 hH60
            have HEL := HEL0
            -- the end of the last round of blocks
            have HS5 : Hid (∃ S xs, Bld (Spot.none_ 45 6) wq w.heap.size (.slice Ao o.length co) (.slice none 0 0) o [] S xs) := by
              obtain ⟨So, xso, hbo⟩ := HBL.out
              obtain ⟨Sn, hbn⟩ := hbo.noWord
              exact ⟨Sn, xso, hbn⟩
            have HRN := Lib.hid (show R = some o from (bk_end HR1.out (by rw [HLN.out]; omega)).trans HCL.out)
            go_wp2
            exact ⟨⟨k + 1, m, o, [], by omega, by go_num, rfl, m0, m1, ho0, ho60, by simp, HS5.out, LetsN.nil _, fun x hx => by have := HEL.out x hx; omega, fun h => absurd h (by omega), fun _ => HRN.out, HBQ.out⟩, by simp [intOf]; omega⟩
    · have hkN1 : k = N + 1 := by omega
      have HRS := Lib.hid (HYES.out H (HRE.out (by omega)) hH60)
      have HOW := Lib.hid (hbl0.own HB.out.size)
      clear hbl0
      go_wp2
      go_ret2
      refine ⟨_, (by rw [HRS.out.2]; rfl), ?_, HB.out⟩
      rw [HRS.out.1]
      exact HOW.out

end Go.Proofs.YtccdnmafakaleaaGreatDoor

/-
  The blocks of events, of the reference.
-/
namespace Go.Proofs.YtccdnmafakaleaaGreatDoor
set_option linter.unusedVariables false
set_option linter.unusedSimpArgs false
open Go.RowKit

/-- The event of the round, as a row of one element. -/
def evLoc (g : Nat) (x : Ev) : Spot := ⟨45, 6, .slice (some ⟨g, 0, none⟩) 1 1, 1, x.cells⟩
theorem own_at {w : World} {B g : Nat} {x : Ev} (h : (evLoc g x).owned w B) : CellsAt w g 0 x.cells := by
  rcases h.2 with ⟨e, _⟩ | ⟨g', cap, cur, e, hb, hh, hn, hc, hs, hx⟩
  · cases e
  · have e' : Value.slice (some ⟨g, 0, none⟩) 1 1 = .slice (some ⟨g', 0, none⟩) 1 cap := e
    injection e' with e1 e2 e3
    injection e1 with e1
    injection e1 with e1 _
    subst e1 e3
    intro j u hu
    have hj : j < 6 := (List.getElem?_eq_some_iff.1 hu).1
    have hx' : cur.toList.take 6 = x.cells := hx
    rw [Nat.zero_add, cell_of_row w g j cur _ (0, 0) hh, ← Array.getElem?_toList, ← hu, ← hx', List.getElem?_take, if_pos hj]
theorem evLoc_new (w : World) (x : Ev) : (evLoc w.heap.size x).owned (w.alloc (.cells #[.int .i64 x.k, .int .i64 x.p, .int .i64 x.c, .int .i64 x.b, .int .i64 x.y, .int .i64 x.d] 45)) w.heap.size :=
  ⟨rfl, .inr ⟨w.heap.size, 1, _, rfl, Nat.le_refl _, heap_alloc_new _ _, Nat.le_refl _, by unfold maxLen; omega, rfl, rfl⟩⟩

set_option maxHeartbeats 8000000 in
set_option maxRecDepth 100000 in
theorem l13Blocks_any (v : Value) (l : List Ev) (w : World) (hl : RdE w w.heap.size v l) (hok : okEvs l = true) :
    Calls Tryz.prog 10 #[v] w (GivesBl w l) := by
  obtain ⟨hcnt, hN⟩ := okEvs_cnt' hok
  obtain ⟨A, N, c, rfl, hln, hl', gl⟩ := hl
  have HL := Lib.hid gl
  have HLN := Lib.hid hl'.out
  have hN2 : N ≤ 2000 := by have := hl'.out; omega
  generalize hR : bkGo 0 [] [⟨⟨0, []⟩, []⟩] l = R
  have HNO := Lib.hid (fun (h : R = none) => bks_none (bkO_none hR h))
  have HMA := Lib.hid (fun (n : Int) (word : List Int) (o : List Bk) (k : Nat) (h : R = bkGo n word o (l.drop k)) (hl : 60 < o.length) => bks_none (bkO_many hR h hl))
  have HYES := Lib.hid (fun (o : List Bk) (h : R = some o) (ho : o.length ≤ 60) => bks_some (bkO_some hR h ho))
  have HR0 := Lib.hid (show R = bkGo 0 [] [⟨⟨0, []⟩, []⟩] (l.drop 0) by rw [← hR]; rfl)
  have HCN := Lib.hid hcnt
  obtain ⟨i0, hi, hz0, hz1, hz2⟩ := info_parts info_int
  obtain ⟨ib, hib, hb0, hb1, hb2⟩ := info_parts info_blk
  obtain ⟨ie, hie, he0, he1, he2⟩ := info_parts info_ev
  have HST : Hid (∃ L S xs, Bld L ((w.alloc (.cells #[.int .i64 0, .slice none 0 0, .slice none 0 0] 41)).alloc (.cells #[] 2)) w.heap.size (.slice (some ⟨w.heap.size, 0, none⟩) 1 1) (.slice (some ⟨w.heap.size + 1, 0, none⟩) 0 0) [⟨⟨0, []⟩, []⟩] [] S xs) := by
    obtain ⟨S, h⟩ := Bld.start (w := w.alloc (.cells #[.int .i64 0, .slice none 0 0, .slice none 0 0] 41)) (B := w.heap.size) (v := .slice (some ⟨w.heap.size, 0, none⟩) 1 1)
      ⟨rfl, .inr ⟨w.heap.size, 1, _, rfl, Nat.le_refl _, heap_alloc_new _ _, Nat.le_refl _, by unfold maxLen; omega, rfl, rfl⟩⟩
    obtain ⟨S', h'⟩ := h.newWord (u' := .slice (some ⟨w.heap.size + 1, 0, none⟩) 0 0) (word' := []) (w' := (w.alloc (.cells #[.int .i64 0, .slice none 0 0, .slice none 0 0] 41)).alloc (.cells #[] 2)) (by simp) ((Below.refl _ _).alloc (Nat.le_refl _) _)
      (by have := World.ownsRow_made (base := (w.alloc (.cells #[.int .i64 0, .slice none 0 0, .slice none 0 0] 41)).heap.size) (e := 2) (size := 1) (w.alloc (.cells #[.int .i64 0, .slice none 0 0, .slice none 0 0] 41)) #[] 0 (Nat.le_refl _) (by unfold maxLen; omega) rfl; simpa [vI] using this)
    exact ⟨_, S', _, h'⟩
  have HB0 := Lib.hid (show Below w.heap.size w ((w.alloc (.cells #[.int .i64 0, .slice none 0 0, .slice none 0 0] 41)).alloc (.cells #[] 2)) from ((Below.refl _ _).alloc (Nat.le_refl _) _).alloc (by simp) _)
  clear hl' gl hcnt hok hN
  clear hR
  go_enter Tryz.func10, Tryz.ntmps10
  go_wp2
  go_loopw [4, 5, 6, 7] (fun v nn u i wr => ∃ (k : Nat) (m : Int) (H : List Bk) (wd : List Int), k ≤ N ∧ i = .int .i64 k ∧ nn = .int .i64 m ∧ 0 ≤ m ∧ m ≤ 12 ∧ 0 < H.length ∧ H.length ≤ k + 1 ∧ wd.length ≤ k ∧ Hid (∃ L S xs, Bld L wr w.heap.size v u H wd S xs) ∧ Hid (LetsN m.toNat wd) ∧ Hid (red wd = wd) ∧ Hid (∀ x ∈ H, x.e.length ≤ k) ∧
    Hid (R = bkGo m wd H (l.drop k)) ∧ Hid ((cntE m (l.drop k)).isSome = true) ∧ Hid (Below w.heap.size w wr)) (fun _ _ _ i _ => N - (intOf i).toNat)
  case atStart => exact ⟨0, 0, [⟨⟨0, []⟩, []⟩], [], by omega, rfl, rfl, by omega, by omega, by simp, by simp, Nat.le_refl _, HST.out, LetsN.nil _, rfl, by simp [Hid], HR0.out, HCN.out, HB0.out⟩
  case round =>
    rename_i wr
    obtain ⟨k, m, H, wd, hk, rfl, rfl, m0, m1, hH0, hHk, hwk, HBL0, HLW, HRW, HEL0, HR1, HCN1, HB⟩ := hrel
    obtain ⟨L0, S0, xs0, hbl0⟩ := HBL0.out
    obtain ⟨Au, cu, rfl⟩ := own_shape hbl0.wordRow
    obtain ⟨Av, cv, rfl⟩ := own_shape hbl0.row
    have hwsz := HB.out.size
    clear HST HR0 HB0 HCN
    have hmn : ((m.toNat : Nat) : Int) = m := by omega
    have HQE := Lib.hid (fun (w1 : World) (hb1 : Below w.heap.size w w1) (hv1 : RdI w1 w1.heap.size (.slice Au wd.length cu) wd) => hmn ▸ l04Equal_any m.toNat (by omega) wd [] HLW.out (LetsN.nil _) (by omega) (by simp) (.slice Au wd.length cu) (.slice none 0 0) w1 hv1 ⟨none, 0, 0, rfl, by omega, rfl, fun k hk => absurd hk (by omega)⟩)
    clear hmn
    by_cases hlt : k < N
    · obtain ⟨b, off, x, rfl, hbb, hlk, hcc⟩ := HL.out k hlt
      obtain ⟨hv, ha, hcn2⟩ := cnt_at HCN1.out hlk
      obtain ⟨c0, c1, c2, c3, c4, c5⟩ := (hcc.below HB.out hbb).six
      obtain ⟨S1, hbl1⟩ := hbl0.loc (L' := evLoc wr.heap.size x) hwsz ((Below.refl wr.heap.size wr).alloc (Nat.le_refl _) (.cells #[.int .i64 x.k, .int .i64 x.p, .int .i64 x.c, .int .i64 x.b, .int .i64 x.y, .int .i64 x.d] 45)) (evLoc_new wr x)
      by_cases hxk : x.k = 1
      · obtain ⟨hltr, hp0, hp1, hc1⟩ := letE_ltr m1 hv hxk
        obtain ⟨hw1, hw2⟩ := letX_rng m1 hv hxk
        have haf : aftE m x = m := by simp [aftE, hxk]
        rw [haf] at hcn2
        have HNX := Lib.hid (bk_cross HR1.out hlk hxk)
        have HCN2 := Lib.hid hcn2
        have hlw2 := HLW.out.snoc hltr
        have HLW2 := Lib.hid (HLW.out.redS hltr)
        have hbd := hlw2.bd (n := m.toNat) (by omega)
        have HBD := Lib.hid hbd
        obtain ⟨hr1, hr2⟩ := red_step HRW.out (letX x)
        have HR2 := Lib.hid hr2
        have HR3 := Lib.hid hr1
        have HO := Lib.hid hbl1.wordRow
        have HBN := Lib.hid hbl1
        have hk1 : (x.k == 1) = true := by simp [hxk]
        have hrl := redS_len wd (letX x)
        clear hcc hlk hv ha haf hcn2 hltr hbl0 hbl1 hxk hc1 hlw2 hbd hr1 hr2
        go_wp2_with (at_builtin; refine wpList_append_own_at _ rfl _ _ 37 rfl w.heap.size 2 i0 _ 1 8 Tryz.underlying37 hi hz0 hz1 hz2 rfl (by decide) _ _ _ rfl (HO.out.alloc _) ⟨wr.heap.size + 1, 0, none⟩ 1 1 [.int .i64 (letX x)] rfl rfl ?c1 ?c2 ?c3 ?c4 ?c5 ?_)
        case c1 => exact new_cells' _ _ (by simp)
        case c2 => intro u hu; simp at hu; subst hu; rfl
        case c3 => unfold maxLen; omega
        case c4 => omega
        case c5 => simp; omega
        intro v2 w2 hown2 hg2 _ hat2
        have HB2 := Lib.hid (((HB.out.alloc hwsz (.cells #[.int .i64 x.k, .int .i64 x.p, .int .i64 x.c, .int .i64 x.b, .int .i64 x.y, .int .i64 x.d] 45)).alloc (by simp; omega) (.cells #[.int .i64 (letX x)] 2)).grown hg2 (by simp; omega) (fun g hg => (HO.out.lt g hg).1))
        have HL2 := Lib.hid ((HBN.out.alloc (.cells #[.int .i64 (letX x)] 2)).letter (x := letX x) hown2 hg2 (by simpa using hat2))
        have HOW2 : Hid (w2.ownsRow w.heap.size 2 1 v2 (wd ++ [letX x]).length (vI (wd ++ [letX x]))) := by unfold Hid; rw [vI_snoc', List.length_append]; exact hown2
        have HQR := Lib.hid (l03Reduce_any v2 (wd ++ [letX x]) w2 (RdI.of_own (OwC.of_own HOW2.out)) HBD.out (by simp; omega))
        have zz2 := HB2.out.size
        clear hown2 hg2 hat2 HBN HO c0 c1 c2 c3 c4 c5
        go_wp2_with fail
        refine HQR.out.mono ?_
        rintro e w3 ⟨v3, rfl, ho3, hb3⟩
        have HB3 := Lib.hid (HB2.out.trans (hb3.mono zz2))
        rw [HR3.out] at ho3
        have HL3 : Hid (∃ L S xs, Bld L w3 w.heap.size (.slice Av H.length cv) v3 H (redS wd (letX x)) S xs) := by
          obtain ⟨S2, h2⟩ := HL2.out
          obtain ⟨S3, h3⟩ := h2.newWord zz2 hb3 ho3
          exact ⟨_, S3, _, h3⟩
        clear ho3 hb3
        go_wp2
        exact ⟨⟨k + 1, m, H, redS wd (letX x), by omega, by go_num, rfl, m0, m1, hH0, by omega, by omega, HL3.out, HLW2.out, HR2.out, fun x hx => by have := HEL0.out x hx; omega, HNX.out, HCN2.out, HB3.out⟩, by simp [intOf]; omega⟩
      · have hab := aft_bounds m0 m1 hv
        have HAFT := Lib.hid (show 0 ≤ aftE m x ∧ aftE m x ≤ 12 ∧ _ from ⟨hab.1, ha, hcn2⟩)
        have HVX := Lib.hid hv
        have HXK := Lib.hid hxk
        have hk1 : (x.k == 1) = false := by simpa using hxk
        have HLK := Lib.hid hlk
        have HX2 := Lib.hid (fun (e : Ev) (he : l[k]? = some e) => show e.k ≠ 1 from by rw [hlk] at he; injection he with he; rw [← he]; exact hxk)
        have HBN1 : Hid (∃ (So : Nat → Spot) (xso : List Value), Bld (evLoc wr.heap.size x) (wr.alloc (.cells #[.int .i64 x.k, .int .i64 x.p, .int .i64 x.c, .int .i64 x.b, .int .i64 x.y, .int .i64 x.d] 45)) w.heap.size (.slice Av H.length cv) (.slice Au wd.length cu) H wd So xso) := ⟨_, _, hbl1⟩
        have HBB1 := Lib.hid (HB.out.alloc hwsz (.cells #[.int .i64 x.k, .int .i64 x.p, .int .i64 x.c, .int .i64 x.b, .int .i64 x.y, .int .i64 x.d] 45))
        have HRD1 := Lib.hid (RdI.of_own (OwC.of_own hbl1.wordRow))
        have zz1 := HBB1.out.size
        clear hv ha hcn2 hab hlk hcc hbl0 hbl1 hxk
        -- a braid closes, in the reference
        by_cases h40 : 40 < wd.length
        · have HE := Lib.hid (HNO.out (bk_none HR1.out HX2.out (clB_full h40)))
          have h40' : (40 : Int) < (wd.length : Int) := by omega
          go_wp2
          go_ret2
          exact GivesBl.no HE.out HBB1.out
        have h40' : ¬ (40 : Int) < (wd.length : Int) := by omega
        have HHQ := Lib.hid (HQE.out _ HBB1.out HRD1.out)
        cases hE : eqW m.toNat wd []
        · have HCL := Lib.hid (clB_push (o := H) h40 hE)
          rw [hE] at HHQ
          clear hE
          have hol : (H ++ [⟨⟨m, wd⟩, []⟩] : List Bk).length = H.length + 1 := by simp
          have ho60 : H.length + 1 ≤ k + 2 := by omega
          have HEL := Lib.hid (clB_elen HCL.out HEL0.out)
          go_wp2_with fail
          refine HHQ.out.mono ?_
          rintro e w2 ⟨rfl, hb2⟩
          have HBB2 := Lib.hid (HBB1.out.trans (hb2.mono zz1))
          obtain ⟨S3, xs3, h3⟩ := HBN1.out
          have HBN3 := Lib.hid (h3.below hb2)
          have HROW := Lib.hid HBN3.out.row
          have zz2 := HBB2.out.size
          clear hb2 h3
          go_wp2_with (at_builtin; refine wpList_append_own_at _ rfl _ _ 32 rfl w.heap.size 41 ib _ 3 56 Tryz.underlying32 hib hb0 hb1 hb2 rfl (by decide) _ _ _ rfl (HROW.out.alloc _) ⟨w2.heap.size, 0, none⟩ 1 1 [.int .i64 m, .slice Au wd.length cu, .slice none 0 0] rfl rfl ?c1 ?c2 ?c3 ?c4 ?c5 ?_)
          case c1 => exact new_cells' _ _ rfl
          case c2 => intro u hu; simp at hu; rcases hu with rfl | rfl | rfl <;> rfl
          case c3 => unfold maxLen; omega
          case c4 => omega
          case c5 => simp; omega
          intro v3 w3 hown3 hg3 _ hat3
          have HBL0 := Lib.hid ((HBN3.out.alloc (.cells #[.int .i64 m, .slice Au wd.length cu, .slice none 0 0] 41)).push (n := m) hown3 hg3 (by simpa using hat3))
          have HBQ := Lib.hid ((HBB2.out.alloc zz2 (.cells #[.int .i64 m, .slice Au wd.length cu, .slice none 0 0] 41)).grown hg3 (by simp; omega) (fun g hg => (HROW.out.lt g hg).1))
          clear hown3 hg3 hat3 HROW HBN3
          obtain ⟨wq, rfl⟩ : ∃ x, x = w3 := ⟨_, rfl⟩
          generalize hoe : (H ++ [⟨⟨m, wd⟩, []⟩] : List Bk) = o at *
          clear hoe
          have ho0 : 0 < o.length := by omega
          rw [← hol] at ho60
          obtain ⟨Ao, co, rfl⟩ : ∃ Ao co, v3 = .slice Ao o.length co := by
            obtain ⟨S3, h3⟩ := HBL0.out
            exact own_shape h3.row
          have HBL : Hid (∃ (So : Nat → Spot) (xso : List Value), Bld (evLoc wr.heap.size x) wq w.heap.size (.slice Ao o.length co) (.slice none 0 0) o [] So xso) := by
            obtain ⟨S3, h3⟩ := HBL0.out
            exact ⟨S3, _, h3⟩
          clear HBL0 hol h40' h40
          -- the tail of a round of the reference's blocks: a stitch behind the last block
          generalize wr.heap.size = ge at *
          obtain ⟨So, xso, hbo⟩ := HBL.out
          have hce := own_at hbo.local_
          have zzq := HBQ.out.size
          have hgeq : w.heap.size ≤ ge ∧ ge < wq.heap.size := hbo.local_.lt ge rfl
          obtain ⟨Sn, hbn⟩ := hbo.newWord (w' := wq.alloc (.cells #[] 2)) (u' := .slice (some ⟨wq.heap.size, 0, none⟩) 0 0) (word' := []) zzq ((Below.refl _ _).alloc (Nat.le_refl _) _) (World.ownsRow_made wq #[] 0 (Nat.le_refl _) (by unfold maxLen; omega) rfl)
          obtain ⟨q, hq⟩ : ∃ q, o.length = q + 1 := ⟨o.length - 1, by omega⟩
          obtain ⟨go, cap, y, t, hv, hgo0, hgo1, hy, hty, hto, hct, hfz, htg, hnc⟩ := hbn.last ho0
          have hte := hbn.local_ne (g := ge) rfl (j := 2 * (o.length - 1) + 3) (by omega) (by omega)
          rw [hty] at hte
          have hte' : t.ownBlock ≠ some ge := hte
          have hgq : go < wq.heap.size := by have := hbo.row.lt go (by rw [hv]; rfl); exact this.2
          have hge : go ≠ ge := fun e => hbn.local_ne (g := ge) rfl (j := 0) (by omega) (by omega) (by rw [hbn.s0]; show (Value.slice _ _ _).ownBlock = _; rw [hv, ← e]; rfl)
          injection hv with hv1 hv2 hv3
          subst hv1
          rw [← hv3] at hnc
          clear hv3 hte
          have hyl : y.e.length ≤ 2001 := by have := HEL.out y (List.mem_of_getElem? hy); omega
          have htb : ∀ g, t.ownBlock = some g → w.heap.size ≤ g := fun g hg => (hto.lt g hg).1
          have HTO := Lib.hid hto
          have HAP := Lib.hid (fun (w' : World) (t' : Value) h1 h2 h3 => (hbn.alloc (.cells #[.int .i64 x.k, .int .i64 x.p, .int .i64 x.c, .int .i64 x.b, .int .i64 x.y, .int .i64 x.d] 45)).drew.stitch (w' := w') (t' := t') (e := x) ho0 hy hty h1 h2 h3)
          have HALEN := Lib.hid (addE_len o x)
          have HRN := Lib.hid (bk_some (HR1.out) HLK.out HXK.out HCL.out)
          have HEL2 := Lib.hid (addE_elen (e := x) HEL.out)
          simp only [hq, Nat.add_sub_cancel] at hct hnc HAP HALEN ⊢
          have hct' : wq.cell? ⟨go, q * 3 + 2, none⟩ = some t := (World.cell?_alloc_lt wq (.cells #[] 2) ⟨go, q * 3 + 2, none⟩ hgq).symm.trans hct
          have hfq := hfz (q * 3 + 2)
          have hfq' : wq.frozen? ⟨go, q * 3 + 2, none⟩ = false := ((((Below.refl wq.heap.size wq).alloc (Nat.le_refl _) (.cells #[] 2)).frozen (p := ⟨go, q * 3 + 2, none⟩) hgq)).symm.trans hfq
          have hq60 : q + 1 ≤ k + 2 := by omega
          obtain ⟨c0, c1, c2, c3, c4, c5⟩ := hce.six
          clear hbo hbn hto hce hv2 hy hty HBL HEL ho0 ho60
          generalize y.e.length = yl at *
          go_wp2_with fail
          go_region_law ((refine step_append_lies _ (by rfl) _ _ _ (by rfl) w.heap.size 45 ie _ 6 48 Tryz.underlying26 hie he0 he1 he2 rfl (by omega) t yl (vE y.e) (by rfl) ((HTO.out.alloc _).drew) ⟨wq.heap.size + 1, 0, none⟩ 1 1 x.cells (by rfl) (by rfl) (World.news_of_block (cs := #[.int .i64 x.k, .int .i64 x.p, .int .i64 x.c, .int .i64 x.b, .int .i64 x.y, .int .i64 x.d]) (t := 45) (fr := (0, 0)) (by have := heap_alloc_new (wq.alloc (.cells #[] 2)) (.cells #[.int .i64 x.k, .int .i64 x.p, .int .i64 x.c, .int .i64 x.b, .int .i64 x.y, .int .i64 x.d] 45); rw [show (wq.alloc (.cells #[] 2)).heap.size = wq.heap.size + 1 from by simp] at this; exact this)) (by simp [Value.oneCell']) (by omega) (by unfold maxLen; omega) (by omega) (by simp; omega) (wq.heap.size + 1 + 1) (by simp) ?_; intro gg cap3 w3 hown3 hgrow hat hlt; have y13 : w3.cell? ⟨go, q * 3 + 2, none⟩ = some t := (hgrow.cell_far ⟨go, q * 3 + 2, none⟩ (by simp; omega) (Ne.symm htg)).trans ((((Below.refl wq.heap.size wq).alloc (Nat.le_refl _) _).alloc (by simp) _ |>.cell (p := ⟨go, q * 3 + 2, none⟩) hgq).trans hct'); have f13 : w3.frozen? ⟨go, q * 3 + 2, none⟩ = false := (hgrow.frozen_far ⟨go, q * 3 + 2, none⟩ (by simp; omega) (Ne.symm htg)).trans ((((Below.refl wq.heap.size wq).alloc (Nat.le_refl _) _).alloc (by simp) _ |>.frozen (p := ⟨go, q * 3 + 2, none⟩) hgq).trans hfq')))
          all_goals
            (have HS3 := Lib.hid (HAP.out w3 (.slice (some ⟨gg, 0, none⟩) (yl + 1) cap3) hown3 hgrow (hat.elim (fun h => .inl h.symm) (fun h => .inr (by rw [h]; simp [Value.ownBlock]))))
             have HB3 := Lib.hid (((((HBQ.out.alloc zzq (.cells #[] 2)).alloc (by simp; omega) (.cells #[.int .i64 x.k, .int .i64 x.p, .int .i64 x.c, .int .i64 x.b, .int .i64 x.y, .int .i64 x.d] 45)).drew).grown hgrow (by simp; omega) htb).setCell (p := ⟨go, q * 3 + 2, none⟩) hgo0 (.slice (some ⟨gg, 0, none⟩) (yl + 1) cap3))
             have HQA : Hid (Calls Tryz.prog 20 #[.pointer (some ⟨ge, 0, none⟩), .int .i64 m] (w3.setCell ⟨go, q * 3 + 2, none⟩ (.slice (some ⟨gg, 0, none⟩) (yl + 1) cap3)) (EvRes m x (w3.setCell ⟨go, q * 3 + 2, none⟩ (.slice (some ⟨gg, 0, none⟩) (yl + 1) cap3)))) := by
               obtain ⟨S5, xs5, h5⟩ := HS3.out
               exact l10Event_any x m m0 m1 ge 0 _ (own_at h5.local_)
             clear hown3 hgrow hat hlt y13 f13 hct hct' c0 c1 c2 c3 c4 c5
             go_wp2_with fail
             refine HQA.out.mono ?_
             rintro e w5 ⟨mm, rfl, hmm, hb5⟩
             rw [HVX.out]
             obtain rfl := hmm HVX.out
             have HB5 := Lib.hid (HB3.out.trans (hb5.mono HB3.out.size))
             have HS5 : Hid (∃ L S xs, Bld L w5 w.heap.size (.slice (some ⟨go, 0, none⟩) (addE o x).length co) (.slice (some ⟨wq.heap.size, 0, none⟩) 0 0) (addE o x) [] S xs) := by
               obtain ⟨S5, xs5, h5⟩ := HS3.out
               rw [HALEN.out]
               exact ⟨_, S5, xs5, h5.below hb5⟩
             clear hb5 hmm
             rw [HALEN.out] at HS5
             go_wp2
             exact ⟨⟨k + 1, aftE m x, addE o x, [], by omega, by go_num, rfl, HAFT.out.1, HAFT.out.2.1, by rw [HALEN.out]; omega, by rw [HALEN.out]; omega, by simp, HS5.out, LetsN.nil _, rfl, HEL2.out, HRN.out, HAFT.out.2.2, HB5.out⟩, by simp [intOf]; omega⟩)
        · have HCL := Lib.hid (clB_triv (o := H) h40 hE)
          rw [hE] at HHQ
          clear hE
          have HBL0 := HBN1
          clear HBN1
          go_wp2_with fail
          refine HHQ.out.mono ?_
          rintro e w2 ⟨rfl, hb2⟩
          have HBQ := Lib.hid (HBB1.out.trans (hb2.mono zz1))
          have HBL : Hid (∃ (So : Nat → Spot) (xso : List Value), Bld (evLoc wr.heap.size x) w2 w.heap.size (.slice Av H.length cv) (.slice Au wd.length cu) H wd So xso) := by
            obtain ⟨S3, xs3, h3⟩ := HBL0.out
            exact ⟨S3, xs3, h3.below hb2⟩
          clear hb2 HBL0 h40' h40
          obtain ⟨o, rfl⟩ : ∃ x, x = H := ⟨_, rfl⟩
          obtain ⟨Ao, rfl⟩ : ∃ x, x = Av := ⟨_, rfl⟩
          obtain ⟨co, rfl⟩ : ∃ x, x = cv := ⟨_, rfl⟩
          obtain ⟨wq, rfl⟩ : ∃ x, x = w2 := ⟨_, rfl⟩
          have ho0 := hH0
          have ho60 : o.length ≤ k + 2 := by omega
          have HEL := HEL0
          -- the tail of a round of the reference's blocks: a stitch behind the last block
          generalize wr.heap.size = ge at *
          obtain ⟨So, xso, hbo⟩ := HBL.out
          have hce := own_at hbo.local_
          have zzq := HBQ.out.size
          have hgeq : w.heap.size ≤ ge ∧ ge < wq.heap.size := hbo.local_.lt ge rfl
          obtain ⟨Sn, hbn⟩ := hbo.newWord (w' := wq.alloc (.cells #[] 2)) (u' := .slice (some ⟨wq.heap.size, 0, none⟩) 0 0) (word' := []) zzq ((Below.refl _ _).alloc (Nat.le_refl _) _) (World.ownsRow_made wq #[] 0 (Nat.le_refl _) (by unfold maxLen; omega) rfl)
          obtain ⟨q, hq⟩ : ∃ q, o.length = q + 1 := ⟨o.length - 1, by omega⟩
          obtain ⟨go, cap, y, t, hv, hgo0, hgo1, hy, hty, hto, hct, hfz, htg, hnc⟩ := hbn.last ho0
          have hte := hbn.local_ne (g := ge) rfl (j := 2 * (o.length - 1) + 3) (by omega) (by omega)
          rw [hty] at hte
          have hte' : t.ownBlock ≠ some ge := hte
          have hgq : go < wq.heap.size := by have := hbo.row.lt go (by rw [hv]; rfl); exact this.2
          have hge : go ≠ ge := fun e => hbn.local_ne (g := ge) rfl (j := 0) (by omega) (by omega) (by rw [hbn.s0]; show (Value.slice _ _ _).ownBlock = _; rw [hv, ← e]; rfl)
          injection hv with hv1 hv2 hv3
          subst hv1
          rw [← hv3] at hnc
          clear hv3 hte
          have hyl : y.e.length ≤ 2001 := by have := HEL.out y (List.mem_of_getElem? hy); omega
          have htb : ∀ g, t.ownBlock = some g → w.heap.size ≤ g := fun g hg => (hto.lt g hg).1
          have HTO := Lib.hid hto
          have HAP := Lib.hid (fun (w' : World) (t' : Value) h1 h2 h3 => (hbn.alloc (.cells #[.int .i64 x.k, .int .i64 x.p, .int .i64 x.c, .int .i64 x.b, .int .i64 x.y, .int .i64 x.d] 45)).drew.stitch (w' := w') (t' := t') (e := x) ho0 hy hty h1 h2 h3)
          have HALEN := Lib.hid (addE_len o x)
          have HRN := Lib.hid (bk_some (HR1.out) HLK.out HXK.out HCL.out)
          have HEL2 := Lib.hid (addE_elen (e := x) HEL.out)
          simp only [hq, Nat.add_sub_cancel] at hct hnc HAP HALEN ⊢
          have hct' : wq.cell? ⟨go, q * 3 + 2, none⟩ = some t := (World.cell?_alloc_lt wq (.cells #[] 2) ⟨go, q * 3 + 2, none⟩ hgq).symm.trans hct
          have hfq := hfz (q * 3 + 2)
          have hfq' : wq.frozen? ⟨go, q * 3 + 2, none⟩ = false := ((((Below.refl wq.heap.size wq).alloc (Nat.le_refl _) (.cells #[] 2)).frozen (p := ⟨go, q * 3 + 2, none⟩) hgq)).symm.trans hfq
          have hq60 : q + 1 ≤ k + 2 := by omega
          obtain ⟨c0, c1, c2, c3, c4, c5⟩ := hce.six
          clear hbo hbn hto hce hv2 hy hty HBL HEL ho0 ho60
          generalize y.e.length = yl at *
          go_wp2_with fail
          go_region_law ((refine step_append_lies _ (by rfl) _ _ _ (by rfl) w.heap.size 45 ie _ 6 48 Tryz.underlying26 hie he0 he1 he2 rfl (by omega) t yl (vE y.e) (by rfl) ((HTO.out.alloc _).drew) ⟨wq.heap.size + 1, 0, none⟩ 1 1 x.cells (by rfl) (by rfl) (World.news_of_block (cs := #[.int .i64 x.k, .int .i64 x.p, .int .i64 x.c, .int .i64 x.b, .int .i64 x.y, .int .i64 x.d]) (t := 45) (fr := (0, 0)) (by have := heap_alloc_new (wq.alloc (.cells #[] 2)) (.cells #[.int .i64 x.k, .int .i64 x.p, .int .i64 x.c, .int .i64 x.b, .int .i64 x.y, .int .i64 x.d] 45); rw [show (wq.alloc (.cells #[] 2)).heap.size = wq.heap.size + 1 from by simp] at this; exact this)) (by simp [Value.oneCell']) (by omega) (by unfold maxLen; omega) (by omega) (by simp; omega) (wq.heap.size + 1 + 1) (by simp) ?_; intro gg cap3 w3 hown3 hgrow hat hlt; have y13 : w3.cell? ⟨go, q * 3 + 2, none⟩ = some t := (hgrow.cell_far ⟨go, q * 3 + 2, none⟩ (by simp; omega) (Ne.symm htg)).trans ((((Below.refl wq.heap.size wq).alloc (Nat.le_refl _) _).alloc (by simp) _ |>.cell (p := ⟨go, q * 3 + 2, none⟩) hgq).trans hct'); have f13 : w3.frozen? ⟨go, q * 3 + 2, none⟩ = false := (hgrow.frozen_far ⟨go, q * 3 + 2, none⟩ (by simp; omega) (Ne.symm htg)).trans ((((Below.refl wq.heap.size wq).alloc (Nat.le_refl _) _).alloc (by simp) _ |>.frozen (p := ⟨go, q * 3 + 2, none⟩) hgq).trans hfq')))
          all_goals
            (have HS3 := Lib.hid (HAP.out w3 (.slice (some ⟨gg, 0, none⟩) (yl + 1) cap3) hown3 hgrow (hat.elim (fun h => .inl h.symm) (fun h => .inr (by rw [h]; simp [Value.ownBlock]))))
             have HB3 := Lib.hid (((((HBQ.out.alloc zzq (.cells #[] 2)).alloc (by simp; omega) (.cells #[.int .i64 x.k, .int .i64 x.p, .int .i64 x.c, .int .i64 x.b, .int .i64 x.y, .int .i64 x.d] 45)).drew).grown hgrow (by simp; omega) htb).setCell (p := ⟨go, q * 3 + 2, none⟩) hgo0 (.slice (some ⟨gg, 0, none⟩) (yl + 1) cap3))
             have HQA : Hid (Calls Tryz.prog 20 #[.pointer (some ⟨ge, 0, none⟩), .int .i64 m] (w3.setCell ⟨go, q * 3 + 2, none⟩ (.slice (some ⟨gg, 0, none⟩) (yl + 1) cap3)) (EvRes m x (w3.setCell ⟨go, q * 3 + 2, none⟩ (.slice (some ⟨gg, 0, none⟩) (yl + 1) cap3)))) := by
               obtain ⟨S5, xs5, h5⟩ := HS3.out
               exact l10Event_any x m m0 m1 ge 0 _ (own_at h5.local_)
             clear hown3 hgrow hat hlt y13 f13 hct hct' c0 c1 c2 c3 c4 c5
             go_wp2_with fail
             refine HQA.out.mono ?_
             rintro e w5 ⟨mm, rfl, hmm, hb5⟩
             rw [HVX.out]
             obtain rfl := hmm HVX.out
             have HB5 := Lib.hid (HB3.out.trans (hb5.mono HB3.out.size))
             have HS5 : Hid (∃ L S xs, Bld L w5 w.heap.size (.slice (some ⟨go, 0, none⟩) (addE o x).length co) (.slice (some ⟨wq.heap.size, 0, none⟩) 0 0) (addE o x) [] S xs) := by
               obtain ⟨S5, xs5, h5⟩ := HS3.out
               rw [HALEN.out]
               exact ⟨_, S5, xs5, h5.below hb5⟩
             clear hb5 hmm
             rw [HALEN.out] at HS5
             go_wp2
             exact ⟨⟨k + 1, aftE m x, addE o x, [], by omega, by go_num, rfl, HAFT.out.1, HAFT.out.2.1, by rw [HALEN.out]; omega, by rw [HALEN.out]; omega, by simp, HS5.out, LetsN.nil _, rfl, HEL2.out, HRN.out, HAFT.out.2.2, HB5.out⟩, by simp [intOf]; omega⟩)
    · have HX2 := Lib.hid (fun (e : Ev) (he : l[k]? = some e) => show e.k ≠ 1 from absurd (List.getElem?_eq_some_iff.1 he).1 (by have := HLN.out; omega))
      obtain ⟨x, hx⟩ : ∃ x : Ev, x = ⟨0, 0, 0, 0, 0, 0⟩ := ⟨_, rfl⟩
      have HBN1 : Hid (∃ (So : Nat → Spot) (xso : List Value), Bld L0 wr w.heap.size (.slice Av H.length cv) (.slice Au wd.length cu) H wd So xso) := ⟨_, _, hbl0⟩
      have HBB1 := HB
      have HRD1 := Lib.hid (RdI.of_own (OwC.of_own hbl0.wordRow))
      have zz1 := hwsz
      clear hbl0 hx
      -- a braid closes, in the reference
      by_cases h40 : 40 < wd.length
      · have HE := Lib.hid (HNO.out (bk_none HR1.out HX2.out (clB_full h40)))
        have h40' : (40 : Int) < (wd.length : Int) := by omega
        go_wp2
        go_ret2
        exact GivesBl.no HE.out HBB1.out
      have h40' : ¬ (40 : Int) < (wd.length : Int) := by omega
      have HHQ := Lib.hid (HQE.out _ HBB1.out HRD1.out)
      cases hE : eqW m.toNat wd []
      · have HCL := Lib.hid (clB_push (o := H) h40 hE)
        rw [hE] at HHQ
        clear hE
        have hol : (H ++ [⟨⟨m, wd⟩, []⟩] : List Bk).length = H.length + 1 := by simp
        have ho60 : H.length + 1 ≤ k + 2 := by omega
        have HEL := Lib.hid (clB_elen HCL.out HEL0.out)
        go_wp2_with fail
        refine HHQ.out.mono ?_
        rintro e w2 ⟨rfl, hb2⟩
        have HBB2 := Lib.hid (HBB1.out.trans (hb2.mono zz1))
        obtain ⟨S3, xs3, h3⟩ := HBN1.out
        have HBN3 := Lib.hid (h3.below hb2)
        have HROW := Lib.hid HBN3.out.row
        have zz2 := HBB2.out.size
        clear hb2 h3
        go_wp2_with (at_builtin; refine wpList_append_own_at _ rfl _ _ 32 rfl w.heap.size 41 ib _ 3 56 Tryz.underlying32 hib hb0 hb1 hb2 rfl (by decide) _ _ _ rfl (HROW.out.alloc _) ⟨w2.heap.size, 0, none⟩ 1 1 [.int .i64 m, .slice Au wd.length cu, .slice none 0 0] rfl rfl ?c1 ?c2 ?c3 ?c4 ?c5 ?_)
        case c1 => exact new_cells' _ _ rfl
        case c2 => intro u hu; simp at hu; rcases hu with rfl | rfl | rfl <;> rfl
        case c3 => unfold maxLen; omega
        case c4 => omega
        case c5 => simp; omega
        intro v3 w3 hown3 hg3 _ hat3
        have HBL0 := Lib.hid ((HBN3.out.alloc (.cells #[.int .i64 m, .slice Au wd.length cu, .slice none 0 0] 41)).push (n := m) hown3 hg3 (by simpa using hat3))
        have HBQ := Lib.hid ((HBB2.out.alloc zz2 (.cells #[.int .i64 m, .slice Au wd.length cu, .slice none 0 0] 41)).grown hg3 (by simp; omega) (fun g hg => (HROW.out.lt g hg).1))
        clear hown3 hg3 hat3 HROW HBN3
        obtain ⟨wq, rfl⟩ : ∃ x, x = w3 := ⟨_, rfl⟩
        generalize hoe : (H ++ [⟨⟨m, wd⟩, []⟩] : List Bk) = o at *
        clear hoe
        have ho0 : 0 < o.length := by omega
        rw [← hol] at ho60
        obtain ⟨Ao, co, rfl⟩ : ∃ Ao co, v3 = .slice Ao o.length co := by
          obtain ⟨S3, h3⟩ := HBL0.out
          exact own_shape h3.row
        have HBL : Hid (∃ (So : Nat → Spot) (xso : List Value), Bld L0 wq w.heap.size (.slice Ao o.length co) (.slice none 0 0) o [] So xso) := by
          obtain ⟨S3, h3⟩ := HBL0.out
          exact ⟨S3, _, h3⟩
        clear HBL0 hol h40' h40
        -- the end of the reference's blocks
        obtain ⟨So, xso, hbo⟩ := HBL.out
        have HRE := Lib.hid ((bk_end HR1.out (by have := HLN.out; omega)).trans HCL.out)
        have HOW := Lib.hid (hbo.own HBQ.out.size)
        clear hbo
        by_cases ho60 : 60 < o.length
        · have HE := Lib.hid (HMA.out m [] o l.length (by rw [List.drop_length, bkGo, clB_nil]; exact HRE.out) ho60)
          have ho60' : (60 : Int) < (o.length : Int) := by omega
          go_wp2
          go_ret2
          exact GivesBl.no HE.out HBQ.out
        · have HE := Lib.hid (HYES.out o HRE.out (by omega))
          have ho60' : ¬ (60 : Int) < (o.length : Int) := by omega
          go_wp2
          go_ret2
          refine ⟨_, (by rw [HE.out.2]; rfl), ?_, HBQ.out⟩
          rw [HE.out.1]
          exact HOW.out
      · have HCL := Lib.hid (clB_triv (o := H) h40 hE)
        rw [hE] at HHQ
        clear hE
        have HBL0 := HBN1
        clear HBN1
        go_wp2_with fail
        refine HHQ.out.mono ?_
        rintro e w2 ⟨rfl, hb2⟩
        have HBQ := Lib.hid (HBB1.out.trans (hb2.mono zz1))
        have HBL : Hid (∃ (So : Nat → Spot) (xso : List Value), Bld L0 w2 w.heap.size (.slice Av H.length cv) (.slice Au wd.length cu) H wd So xso) := by
          obtain ⟨S3, xs3, h3⟩ := HBL0.out
          exact ⟨S3, xs3, h3.below hb2⟩
        clear hb2 HBL0 h40' h40
        obtain ⟨o, rfl⟩ : ∃ x, x = H := ⟨_, rfl⟩
        obtain ⟨Ao, rfl⟩ : ∃ x, x = Av := ⟨_, rfl⟩
        obtain ⟨co, rfl⟩ : ∃ x, x = cv := ⟨_, rfl⟩
        obtain ⟨wq, rfl⟩ : ∃ x, x = w2 := ⟨_, rfl⟩
        have ho0 := hH0
        have ho60 : o.length ≤ k + 2 := by omega
        have HEL := HEL0
        -- the end of the reference's blocks
        obtain ⟨So, xso, hbo⟩ := HBL.out
        have HRE := Lib.hid ((bk_end HR1.out (by have := HLN.out; omega)).trans HCL.out)
        have HOW := Lib.hid (hbo.own HBQ.out.size)
        clear hbo
        by_cases ho60 : 60 < o.length
        · have HE := Lib.hid (HMA.out m [] o l.length (by rw [List.drop_length, bkGo, clB_nil]; exact HRE.out) ho60)
          have ho60' : (60 : Int) < (o.length : Int) := by omega
          go_wp2
          go_ret2
          exact GivesBl.no HE.out HBQ.out
        · have HE := Lib.hid (HYES.out o HRE.out (by omega))
          have ho60' : ¬ (60 : Int) < (o.length : Int) := by omega
          go_wp2
          go_ret2
          refine ⟨_, (by rw [HE.out.2]; rfl), ?_, HBQ.out⟩
          rw [HE.out.1]
          exact HOW.out

end Go.Proofs.YtccdnmafakaleaaGreatDoor
