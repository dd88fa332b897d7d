/-
  The reference's ReadEvent.
-/
import Derived.Test.YtgkapjjolhnliaaDoorRdA
import Derived.Test.YtgkapjjolhnliaaDoorRdB
import Derived.Test.YtgkapjjolhnliaaDoorRdQ
import Derived.Test.YtgkapjjolhnliaaDoorBx0
namespace Go.Proofs.YtgkapjjolhnliaaDoor
set_option linter.unusedVariables false
set_option linter.unusedSimpArgs false
open Go.RowKit

/-- The kind of a word, of those below k. -/
def kwP (l : List UInt8) : Nat → Int
  | 0 => 0
  | k + 1 => if 1 ≤ k ∧ wordK (k : Int) = l then (k : Int) else kwP l k
theorem kwP_six (l : List UInt8) : kwP l 6 = kwS l := by
  simp [kwP, kwS, eq_comm]
theorem spl_len (b : UInt8) (s : List UInt8) : ∀ pre, ∀ l ∈ splA b pre s, l.length ≤ pre.length + s.length := by
  induction s with
  | nil => intro pre l hl; simp [splA] at hl; subst hl; simp
  | cons x xs ih =>
    intro pre l hl
    rw [splA] at hl
    split at hl
    · rcases List.mem_cons.1 hl with rfl | h
      · simp
      · have := ih [] l h
        simp at this ⊢
        omega
    · have := ih _ l hl
      simp at this ⊢
      omega
theorem ba_getD (bs : ByteArray) (l : List UInt8) (h : bs.data.toList = l) (i : Nat) (hi : i < bs.size) : l.getD i 0 = bs[i] := by
  subst h
  rw [List.getD_eq_getElem?_getD, List.getElem?_eq_getElem (by simpa using hi)]
  rfl
theorem ba_num (x : UInt8) (n : Nat) (h : n < 256) : x = UInt8.ofNat n ↔ ((x.toNat : Int) == (n : Int)) = true := by
  rw [beq_iff_eq]
  constructor
  · intro e; rw [e, UInt8.toNat_ofNat']; omega
  · intro e; apply UInt8.toNat_inj.1; rw [UInt8.toNat_ofNat']; omega
/-- Where the reading stands: the words' row, the event's box, the result's box. -/
structure RdSt (B : Nat) (w0 wx : World) (gr gw ge : Nat) (ws : List (List UInt8)) (k p c b y d : Int) : Prop where
  below : Below B w0 wx
  res : Bx wx gr [.int .i64 0, .int .i64 0, .int .i64 0, .int .i64 0, .int .i64 0, .int .i64 0]
  words : ∀ (j : Nat) (x : List UInt8), ws[j]? = some x → wx.cell? ⟨gw, j, none⟩ = some (strV x)
  box : Bx wx ge [.int .i64 k, .int .i64 p, .int .i64 c, .int .i64 b, .int .i64 y, .int .i64 d]
  o1 : B ≤ gr
  o2 : gr < gw
  o3 : gw < ge
theorem RdSt.on {B : Nat} {w0 wx wy : World} {gr gw ge : Nat} {ws : List (List UInt8)} {k p c b y d : Int} (h : RdSt B w0 wx gr gw ge ws k p c b y d) (hb : Below wx.heap.size wx wy) : RdSt B w0 wy gr gw ge ws k p c b y d :=
  ⟨h.below.trans (hb.mono (by have := h.res.2.2; have := h.o1; omega)), h.res.below hb h.res.2.2, fun j x hx => (hb.cell (p := ⟨gw, j, none⟩) (block_lt_of_cell (h.words j x hx))).trans (h.words j x hx), h.box.below hb h.box.2.2, h.o1, h.o2, h.o3⟩
theorem RdSt.put {B : Nat} {w0 wx : World} {gr gw ge : Nat} {ws : List (List UInt8)} {k p c b y d : Int} (h : RdSt B w0 wx gr gw ge ws k p c b y d) {i : Nat} (hi : i < 6) (u : Value) {k' p' c' b' y' d' : Int}
    (he : ([.int .i64 k, .int .i64 p, .int .i64 c, .int .i64 b, .int .i64 y, .int .i64 d] : List Value).set i u = [.int .i64 k', .int .i64 p', .int .i64 c', .int .i64 b', .int .i64 y', .int .i64 d']) : RdSt B w0 (wx.setCell ⟨ge, i, none⟩ u) gr gw ge ws k' p' c' b' y' d' :=
  ⟨⟨h.below.os, h.below.tape, h.below.output, by simp; exact h.below.size, fun j hj => by rw [Below.heap_setCell _ _ _ _ (by show j ≠ ge; have := h.o1; have := h.o2; have := h.o3; omega)]; exact h.below.block j hj⟩,
    h.res.far (by have := h.o2; have := h.o3; omega) i u, fun j x hx => (far_cell (by have := h.o3; omega) wx i u j).trans (h.words j x hx), he ▸ h.box.set (by simpa using hi) u, h.o1, h.o2, h.o3⟩
theorem RdSt.drew {B : Nat} {w0 wx : World} {gr gw ge : Nat} {ws : List (List UInt8)} {k p c b y d : Int} (h : RdSt B w0 wx gr gw ge ws k p c b y d) : RdSt B w0 wx.drew gr gw ge ws k p c b y d :=
  ⟨h.below.drew, h.res, h.words, h.box, h.o1, h.o2, h.o3⟩
theorem RdSt.size {B : Nat} {w0 wx : World} {gr gw ge : Nat} {ws : List (List UInt8)} {k p c b y d : Int} (h : RdSt B w0 wx gr gw ge ws k p c b y d) : ge < wx.heap.size := h.box.2.2
attribute [local go_sem] strV
/-- What ReadEvent answers. -/
def RdAns (s : List UInt8) (w : World) (e : Ending) (w' : World) : Prop := (∃ v, e = .returned v ∧ RdRes s v) ∧ Below w.heap.size w w'
set_option maxHeartbeats 8000000 in
set_option maxRecDepth 100000 in
theorem specReadEvent_any (s : ByteArray) (hs : s.size ≤ 1048576) (w : World) : Calls Tryd.prog 8 #[.string s] w (RdAns s.data.toList w) := by
  have HSp := Lib.hid (fun (W : World) => l01Split_any s 32 hs W)
  have HN := Lib.hid (fun (l : List UInt8) (hl : l.length ≤ 1048576) (W : World) => l01Number_any ⟨l.toArray⟩ (by show l.toArray.size ≤ _; simpa using hl) W)
  have HE := Lib.hid (fun (e : Ev) (W : World) => specEventText_any e W)
  have HL := Lib.hid (spl_len 32 s.data.toList [])
  have HU := Lib.hid (fun (x : Ev) (hv : valE 12 x = true) (ht : evT x = s.data.toList) => show splA 32 [] s.data.toList = evW x by rw [← ht]; exact spl_evT x)
  have HNE := Lib.hid (show 3 ≤ (splA 32 [] s.data.toList).length → s.data.toList ≠ [] from fun h e => by rw [e] at h; simp [splA] at h)
  generalize splA 32 [] s.data.toList = ws at *
  go_enter Tryd.func8, Tryd.ntmps8
  go_upto_region 2 with (go_at_call 15; refine (HSp.out _).mono ?_; rintro e w1 ⟨v, rfl, hR, hB⟩; obtain ⟨A, c, rfl⟩ := own_shape hR; have HR := Lib.hid hR; have HB := Lib.hid hB; clear hR hB)
  by_cases hlen : 3 ≤ ws.length ∧ ws.length ≤ 4
  case neg =>
    have HQ := Lib.hid (rd_none (s := s.data.toList) (fun x hv ht => by
      have h9 := HU.out x hv ht
      rw [h9] at hlen
      rcases evW_cases hv with ⟨_, r⟩ | ⟨_, r⟩ | ⟨_, r⟩ <;> (rw [r] at hlen; simp at hlen)))
    have hX : Below w.heap.size w w1 := ((Below.refl _ _).alloc (Nat.le_refl _) _).trans (HB.out.mono (by simp))
    clear HR HU HL
    have HX0 := (Bx.new w [.int .i64 0, .int .i64 0, .int .i64 0, .int .i64 0, .int .i64 0, .int .i64 0] 25).below HB.out (by simp)
    obtain ⟨r0, r1, r2, r3, r4, r5⟩ := HX0.six
    have rf := HX0.2.1
    by_cases h1 : ws.length < 3
    · go_wp2_with fail
      refine bodyPost_ret (v := .tuple #[zE.v, .bool false]) (by simp [results, Tryd.results8, go_sem, r0, r1, r2, r3, r4, r5, World.cell?_setCell_other, Ev.v, Ev.cells, zE]) rfl ⟨⟨_, rfl, HQ.out⟩, below_set6 (o := 0) hX (Nat.le_refl _) _ _ _ _ _ _⟩
    · have h2 : 4 < ws.length := by omega
      clear hlen
      go_wp2_with fail
      refine bodyPost_ret (v := .tuple #[zE.v, .bool false]) (by simp [results, Tryd.results8, go_sem, r0, r1, r2, r3, r4, r5, World.cell?_setCell_other, Ev.v, Ev.cells, zE]) rfl ⟨⟨_, rfl, HQ.out⟩, below_set6 (o := 0) hX (Nat.le_refl _) _ _ _ _ _ _⟩
  case pos =>
    obtain ⟨hl3, hl4⟩ := hlen
    obtain ⟨gw, rfl, hgw, hcw⟩ : ∃ gw, A = some ⟨gw, 0, none⟩ ∧ w.heap.size < gw ∧ ∀ (j : Nat) (x : List UInt8), ws[j]? = some x → w1.cell? ⟨gw, j, none⟩ = some (strV x) := by
      rcases HR.out.2 with ⟨-, h0⟩ | ⟨g, cap, cur, e9, hgB, -, -, -, -, -⟩
      · exfalso; omega
      injection e9 with e1 e2 e3
      subst e1
      refine ⟨g, rfl, by simp at hgB; omega, fun j x hx => ?_⟩
      have h9 := HR.out.cells (g := g) rfl j (strV x) (by simp [sC, hx])
      have e : (⟨g, 0, none⟩ : Addr).add j = ⟨g, j, none⟩ := by unfold Addr.add; split <;> simp_all
      rw [e] at h9
      exact h9
    have HCW := Lib.hid hcw
    have HX0 := Lib.hid ((Bx.new w [.int .i64 0, .int .i64 0, .int .i64 0, .int .i64 0, .int .i64 0, .int .i64 0] 25).below HB.out (by simp))
    have HX : Hid (Below w.heap.size w w1) := ((Below.refl _ _).alloc (Nat.le_refl _) _).trans (HB.out.mono (by simp))
    have HNE2 := Lib.hid (HNE.out hl3)
    have hgwl : gw < w1.heap.size := block_lt_of_cell (hcw 0 _ (List.getElem?_eq_getElem (by omega)))
    clear HR HB HNE hcw
    obtain ⟨n, hn⟩ : ∃ n, n = ws.length := ⟨_, rfl⟩
    obtain ⟨x0, hx0⟩ : ∃ x, ws[0]? = some x := ⟨_, List.getElem?_eq_getElem (by omega)⟩
    obtain ⟨x1, hx1⟩ : ∃ x, ws[1]? = some x := ⟨_, List.getElem?_eq_getElem (by omega)⟩
    obtain ⟨x2, hx2⟩ : ∃ x, ws[2]? = some x := ⟨_, List.getElem?_eq_getElem (by omega)⟩
    obtain ⟨xl, hxl⟩ : ∃ x, ws[n - 1]? = some x := ⟨_, List.getElem?_eq_getElem (by omega)⟩
    have hs0 : x0.length ≤ 1048576 := Nat.le_trans (HL.out x0 (List.mem_of_getElem? hx0)) (by simpa using hs)
    have hs1 : x1.length ≤ 1048576 := Nat.le_trans (HL.out x1 (List.mem_of_getElem? hx1)) (by simpa using hs)
    have hs2 : x2.length ≤ 1048576 := Nat.le_trans (HL.out x2 (List.mem_of_getElem? hx2)) (by simpa using hs)
    have hsl : xl.length ≤ 1048576 := Nat.le_trans (HL.out xl (List.mem_of_getElem? hxl)) (by simpa using hs)
    have HW0 := Lib.hid hx0
    have HW1 := Lib.hid hx1
    have HW2 := Lib.hid hx2
    have HWL := Lib.hid hxl
    have HLEN := Lib.hid hn
    rw [← hn] at hl3 hl4 ⊢
    clear hx0 hx1 hx2 hxl hn HL
    go_upto_region 6 with (go_at_call 16; refine (l10Words_any _).mono ?_; rintro e w2 ⟨g6, rfl, hg6, hc6, hb6⟩)
    have HS : Hid (RdSt w.heap.size w w2 w.heap.size gw w1.heap.size ws 0 0 0 0 0 0) := ⟨(HX.out.alloc HX.out.size _).trans (hb6.mono (by have := HX.out.size; simp; omega)), (HX0.out.alloc _).below hb6 (by simpa using Nat.lt_succ_of_lt HX0.out.2.2),
      fun j x hx => ((hb6.cell (p := ⟨gw, j, none⟩) (by simp; omega)).trans (World.cell?_alloc_lt _ _ ⟨gw, j, none⟩ hgwl)).trans (HCW.out j x hx), (Bx.new w1 [.int .i64 0, .int .i64 0, .int .i64 0, .int .i64 0, .int .i64 0, .int .i64 0] 25).below hb6 (by simp), Nat.le_refl _, hgw, hgwl⟩
    have HC6 := Lib.hid hc6
    have h6g : w1.heap.size ≠ g6 := by simp at hg6; omega
    generalize w1.heap.size = ge at *
    clear hc6 hb6 hg6 HX HX0 HCW
    go_wp2_with fail
    go_loopw [7] (fun v7 wr => ∃ (k : Nat) (kk : Int) (wq : World), wq = wr ∧ v7 = .int .i64 (k : Int) ∧ 1 ≤ k ∧ k ≤ 6 ∧ Hid (kk = kwP x0 k) ∧ Hid (RdSt w.heap.size w wq w.heap.size gw ge ws kk 0 0 0 0 0) ∧ Hid (CellsAt wq g6 0 wordsL)) (fun v7 _ => 6 - (intOf v7).toNat)
    case atStart => exact ⟨1, 0, _, rfl, rfl, by omega, by omega, by simp [Hid, kwP], HS.out, HC6.out⟩
    case round =>
      obtain ⟨k, kk, wq, hwq, rfl, hk1, hk6, HK, HS3, HC3⟩ := hrel
      subst hwq
      clear HS HC6
      obtain ⟨c0, c1, c2, c3, c4, c5⟩ := HS3.out.box.six
      have cf := HS3.out.box.2.1
      have q0 := HS3.out.words 0 x0 HW0.out
      by_cases hlt : k < 6
      · have q1 : wq.cell? ⟨g6, k, none⟩ = some (strV (wordK k)) := by
          have h9 := HC3.out k _ (words_at k hk1 (by omega))
          rw [Nat.zero_add] at h9
          exact h9
        by_cases he : wordK (k : Int) = x0
        · have he' : (wordK (k : Int) == x0) = true := by simpa using he
          have HK2 : Hid ((k : Int) = kwP x0 (k + 1)) := by unfold Hid; rw [kwP, if_pos ⟨hk1, he⟩]
          have HP := Lib.hid (HS3.out.drew.put (i := 0) (by omega) (.int .i64 k) (k' := k) (p' := 0) (c' := 0) (b' := 0) (y' := 0) (d' := 0) rfl)
          have HC4 := Lib.hid (CellsAt.far (w := wq.drew) HC3.out (p := ⟨ge, 0, none⟩) h6g (.int .i64 k))
          clear he
          go_wp2_with fail
          go_region
          all_goals go_wp2_with fail
          all_goals exact ⟨⟨k + 1, k, _, rfl, by go_num, by omega, by omega, HK2.out, HP.out, HC4.out⟩, by simp [intOf]; omega⟩
        · have he' : (wordK (k : Int) == x0) = false := by simpa using he
          have HK2 : Hid (kk = kwP x0 (k + 1)) := by unfold Hid; rw [kwP, if_neg (fun h => he h.2)]; exact HK.out
          clear he
          go_wp2_with fail
          go_region
          all_goals go_wp2_with fail
          all_goals exact ⟨⟨k + 1, kk, _, rfl, by go_num, by omega, by omega, HK2.out, HS3.out.drew, HC3.out⟩, by simp [intOf]; omega⟩
      · obtain rfl : k = 6 := by omega
        have HK3 : Hid (kk = kwS x0) := by rw [← kwP_six]; exact HK
        have q2 := HS3.out.words 1 x1 HW1.out
        clear HC3 hk1 hk6 hlt HK
        go_upto_region 12 with (go_at_call 17; refine (HN.out x1 hs1 _).mono ?_; rintro e w3 ⟨p, okp, rfl, hNum, hb3⟩)
        have HS4 := Lib.hid (HS3.out.on hb3)
        have HNP : Hid (NumR x1 p) := hNum
        obtain ⟨d0, d1, d2, d3, d4, d5⟩ := HS4.out.box.six
        have df := HS4.out.box.2.1
        have HP := Lib.hid (HS4.out.put (i := 1) (by omega) (.int .i64 p) (k' := kk) (p' := p) (c' := 0) (b' := 0) (y' := 0) (d' := 0) rfl)
        clear hb3 hNum HS3 c0 c1 c2 c3 c4 c5 cf q0 q2
        go_upto_region 13 with fail
        generalize w3.setCell ⟨ge, 1, none⟩ (.int .i64 p) = w4 at *
        clear HS4 d0 d1 d2 d3 d4 d5 df
        obtain ⟨d0, d1, d2, d3, d4, d5⟩ := HP.out.box.six
        have df := HP.out.box.2.1
        have q3 := HP.out.words 2 x2 HW2.out
        go_upto_if 55 with fail
        go_cut [] (fun wx => ∃ (c : Int) (wq : World), wq = wx ∧ Hid (RdSt w.heap.size w wx w.heap.size gw ge ws kk p c 0 0 0) ∧ Hid ((kk ≠ 3 ∧ NumR x2 c) ∨ (kk = 3 ∧ c = 0)))
        case first =>
          by_cases hk3 : kk = 3
          · have hk3' : (kk != 3) = false := by simp [hk3]
            have HK4 := Lib.hid hk3
            clear hk3
            go_wp2_with fail
            go_meet
            exact ⟨0, _, rfl, HP.out, .inr ⟨HK4.out, rfl⟩⟩
          · have hk3' : (kk != 3) = true := by simpa using hk3
            have HK4 := Lib.hid hk3
            clear hk3
            go_upto_region 15 with (go_at_call 17; refine (HN.out x2 hs2 _).mono ?_; rintro e w5 ⟨c, okc, rfl, hNum, hb5⟩)
            have HS5 := Lib.hid (HP.out.on hb5)
            have HP5 := Lib.hid (HS5.out.put (i := 2) (by omega) (.int .i64 c) (k' := kk) (p' := p) (c' := c) (b' := 0) (y' := 0) (d' := 0) rfl)
            have HNC : Hid (NumR x2 c) := hNum
            clear d0 d1 d2 d3 d4 d5 df hNum hb5
            obtain ⟨d0, d1, d2, d3, d4, d5⟩ := HS5.out.box.six
            have df := HS5.out.box.2.1
            go_wp2_with fail
            go_meet
            exact ⟨c, _, rfl, HP5.out, .inl ⟨HK4.out, HNC.out⟩⟩
        case rest =>
          obtain ⟨c, wq, hwq, HR5, HCC⟩ := hcut
          subst hwq
          clear HP d0 d1 d2 d3 d4 d5 df q3
          have q3 := HR5.out.words (n - 1) xl HWL.out
          go_upto_region 16 with fail
          go_cut [12] (fun s12 wx => wq = wx ∧ s12 = strV xl)
          case first =>
            obtain hn3 | hn4 : n = 3 ∨ n = 4 := by omega
            · subst hn3
              go_wp2_with fail
              go_meet
              exact ⟨rfl, rfl⟩
            · subst hn4
              go_wp2_with fail
              go_meet
              exact ⟨rfl, rfl⟩
          case rest =>
          obtain ⟨hw5, rfl⟩ := hcut
          subst hw5
          clear q3
          obtain ⟨d0, d1, d2, d3, d4, d5⟩ := HR5.out.box.six
          have df := HR5.out.box.2.1
          obtain ⟨bs, hbs⟩ : ∃ bs : ByteArray, bs = ⟨xl.toArray⟩ := ⟨_, rfl⟩
          have hbl : bs.data.toList = xl := by rw [hbs]
          have hbz : bs.size = xl.length := by rw [← ba_len, hbl]
          rw [show strV xl = .string bs by rw [hbs]; rfl]
          have HBL := Lib.hid hbl
          clear hbs hbl
          go_upto_region 17 with fail
          go_cut [83] (fun s83 wx => ∃ q : Bool, wq = wx ∧ s83 = .bool q ∧ Hid (q = true ↔ (kk ≠ 1 ∧ kk ≠ 4 ∧ 2 < xl.length)))
          case first =>
            by_cases h1 : kk = 1
            · have h1' : (kk != 1) = false := by simp [h1]
              have H1 := Lib.hid h1
              clear h1
              go_wp2_with fail
              go_meet
              exact ⟨_, rfl, rfl, by unfold Hid; simp [H1.out]⟩
            · have h1' : (kk != 1) = true := by simpa using h1
              have H1 := Lib.hid h1
              clear h1
              by_cases h4 : kk = 4
              · have h4' : (kk != 4) = false := by simp [h4]
                have H4 := Lib.hid h4
                clear h4
                go_wp2_with fail
                go_meet
                exact ⟨_, rfl, rfl, by unfold Hid; simp [H4.out]⟩
              · have h4' : (kk != 4) = true := by simpa using h4
                have H4 := Lib.hid h4
                clear h4
                go_wp2_with fail
                go_meet
                exact ⟨_, rfl, rfl, by unfold Hid; rw [← hbz]; have := H1.out; have := H4.out; simp; omega⟩
          case rest =>
            obtain ⟨q, hw5, rfl, HQ⟩ := hcut
            subst hw5
            have HBZ := Lib.hid hbz
            clear hbz
            go_upto_if 83 with fail
            go_cut [] (fun wx => ∃ (b y d : Int) (w9 : World), w9 = wx ∧ Hid (RdSt w.heap.size w wx w.heap.size gw ge ws kk p c b y d) ∧ Hid (((kk ≠ 1 ∧ kk ≠ 4 ∧ 2 < xl.length) ∧ YarnR xl ⟨kk, p, c, b, y, d⟩) ∨ (¬ (kk ≠ 1 ∧ kk ≠ 4 ∧ 2 < xl.length) ∧ Bare ⟨kk, p, c, b, y, d⟩)))
            case first =>
              cases q with
              | false =>
                have Hn := Lib.hid (show ¬ (kk ≠ 1 ∧ kk ≠ 4 ∧ 2 < xl.length) from fun h => by have := HQ.out.2 h; cases this)
                clear HQ
                go_wp2_with fail
                go_meet
                exact ⟨0, 0, 0, _, rfl, HR5.out, .inr ⟨Hn.out, rfl, rfl, rfl⟩⟩
              | true =>
                have Hn := Lib.hid (HQ.out.1 rfl)
                have hb3 : 2 < bs.size := by rw [HBZ.out]; exact Hn.out.2.2
                have HG0 := Lib.hid (ba_getD bs xl HBL.out 0 (by omega))
                have HG1 := Lib.hid (ba_getD bs xl HBL.out 1 (by omega))
                have HNL := Lib.hid (fun (W : World) => l01Number_any (bs.extract 2 bs.size) (by have := HBZ.out; simp; omega) W)
                have HDR : Hid ((bs.extract 2 bs.size).data.toList = xl.drop 2) := by unfold Hid; rw [ba_drop, HBL.out]
                have P3 := Lib.hid (HR5.out.put (i := 3) (by omega) (.int .i64 1) (k' := kk) (p' := p) (c' := c) (b' := 1) (y' := 0) (d' := 0) rfl)
                clear HQ HCC
                obtain ⟨q0, hq0⟩ : ∃ q0 : Bool, (((bs[0]).toNat : Int) == 98) = q0 := ⟨_, rfl⟩
                obtain ⟨q1, hq1⟩ : ∃ q1 : Bool, (((bs[1]).toNat : Int) == 45) = q1 := ⟨_, rfl⟩
                have HB0 : Hid ((xl.getD 0 0 = 98) ↔ q0 = true) := by rw [HG0.out, ← hq0]; exact ba_num _ 98 (by omega)
                have HB1 : Hid ((xl.getD 1 0 = 45) ↔ q1 = true) := by rw [HG1.out, ← hq1]; exact ba_num _ 45 (by omega)
                clear HG0 HG1
                rcases q0 with _ | _ <;> rcases q1 with _ | _
                · have PB := P3
                  have PD := Lib.hid (PB.out.put (i := 5) (by omega) (.int .i64 1) (k' := kk) (p' := p) (c' := c) (b' := 1) (y' := 0) (d' := 1) rfl)
                  clear P3 PB
                  go_upto_region 24 with fail
                  generalize (wq.setCell ⟨ge, 3, none⟩ (.int .i64 1)).setCell ⟨ge, 5, none⟩ (.int .i64 1) = W5 at *
                  go_upto_region 25 with (go_at_call 17; refine (HNL.out _).mono ?_; rintro e w6 ⟨y, oky, rfl, hNum, hb6⟩)
                  have HNY : Hid (NumR (xl.drop 2) y) := HDR.out ▸ hNum
                  have HS6 := Lib.hid (PD.out.on hb6)
                  have P7 := Lib.hid (HS6.out.put (i := 4) (by omega) (.int .i64 y) (k' := kk) (p' := p) (c' := c) (b' := 1) (y' := y) (d' := 1) rfl)
                  clear d0 d1 d2 d3 d4 d5 df hNum hb6
                  obtain ⟨d0, d1, d2, d3, d4, d5⟩ := HS6.out.box.six
                  have df := HS6.out.box.2.1
                  go_wp2_with fail
                  go_meet
                  exact ⟨1, y, 1, _, rfl, P7.out, .inl ⟨Hn.out, by rw [if_neg (fun e => by have := HB0.out.1 e; cases this)], by rw [if_neg (fun e => by have := HB1.out.1 e; cases this)], HNY.out⟩⟩
                · have PB := P3
                  have PD := Lib.hid (PB.out.put (i := 5) (by omega) (.int .i64 1) (k' := kk) (p' := p) (c' := c) (b' := 1) (y' := 0) (d' := 1) rfl)
                  replace PD := Lib.hid (PD.out.put (i := 5) (by omega) (.int .i64 (-1)) (k' := kk) (p' := p) (c' := c) (b' := 1) (y' := 0) (d' := -1) rfl)
                  clear P3 PB
                  go_upto_region 24 with fail
                  generalize ((wq.setCell ⟨ge, 3, none⟩ (.int .i64 1)).setCell ⟨ge, 5, none⟩ (.int .i64 1)).setCell ⟨ge, 5, none⟩ (.int .i64 (-1)) = W5 at *
                  go_upto_region 25 with (go_at_call 17; refine (HNL.out _).mono ?_; rintro e w6 ⟨y, oky, rfl, hNum, hb6⟩)
                  have HNY : Hid (NumR (xl.drop 2) y) := HDR.out ▸ hNum
                  have HS6 := Lib.hid (PD.out.on hb6)
                  have P7 := Lib.hid (HS6.out.put (i := 4) (by omega) (.int .i64 y) (k' := kk) (p' := p) (c' := c) (b' := 1) (y' := y) (d' := -1) rfl)
                  clear d0 d1 d2 d3 d4 d5 df hNum hb6
                  obtain ⟨d0, d1, d2, d3, d4, d5⟩ := HS6.out.box.six
                  have df := HS6.out.box.2.1
                  go_wp2_with fail
                  go_meet
                  exact ⟨1, y, -1, _, rfl, P7.out, .inl ⟨Hn.out, by rw [if_neg (fun e => by have := HB0.out.1 e; cases this)], by rw [if_pos (HB1.out.2 (by first | rfl | trivial))], HNY.out⟩⟩
                · have PB := Lib.hid (P3.out.put (i := 3) (by omega) (.int .i64 2) (k' := kk) (p' := p) (c' := c) (b' := 2) (y' := 0) (d' := 0) rfl)
                  have PD := Lib.hid (PB.out.put (i := 5) (by omega) (.int .i64 1) (k' := kk) (p' := p) (c' := c) (b' := 2) (y' := 0) (d' := 1) rfl)
                  clear P3 PB
                  go_upto_region 24 with fail
                  generalize ((wq.setCell ⟨ge, 3, none⟩ (.int .i64 1)).setCell ⟨ge, 3, none⟩ (.int .i64 2)).setCell ⟨ge, 5, none⟩ (.int .i64 1) = W5 at *
                  go_upto_region 25 with (go_at_call 17; refine (HNL.out _).mono ?_; rintro e w6 ⟨y, oky, rfl, hNum, hb6⟩)
                  have HNY : Hid (NumR (xl.drop 2) y) := HDR.out ▸ hNum
                  have HS6 := Lib.hid (PD.out.on hb6)
                  have P7 := Lib.hid (HS6.out.put (i := 4) (by omega) (.int .i64 y) (k' := kk) (p' := p) (c' := c) (b' := 2) (y' := y) (d' := 1) rfl)
                  clear d0 d1 d2 d3 d4 d5 df hNum hb6
                  obtain ⟨d0, d1, d2, d3, d4, d5⟩ := HS6.out.box.six
                  have df := HS6.out.box.2.1
                  go_wp2_with fail
                  go_meet
                  exact ⟨2, y, 1, _, rfl, P7.out, .inl ⟨Hn.out, by rw [if_pos (HB0.out.2 (by first | rfl | trivial))], by rw [if_neg (fun e => by have := HB1.out.1 e; cases this)], HNY.out⟩⟩
                · have PB := Lib.hid (P3.out.put (i := 3) (by omega) (.int .i64 2) (k' := kk) (p' := p) (c' := c) (b' := 2) (y' := 0) (d' := 0) rfl)
                  have PD := Lib.hid (PB.out.put (i := 5) (by omega) (.int .i64 1) (k' := kk) (p' := p) (c' := c) (b' := 2) (y' := 0) (d' := 1) rfl)
                  replace PD := Lib.hid (PD.out.put (i := 5) (by omega) (.int .i64 (-1)) (k' := kk) (p' := p) (c' := c) (b' := 2) (y' := 0) (d' := -1) rfl)
                  clear P3 PB
                  go_upto_region 24 with fail
                  generalize (((wq.setCell ⟨ge, 3, none⟩ (.int .i64 1)).setCell ⟨ge, 3, none⟩ (.int .i64 2)).setCell ⟨ge, 5, none⟩ (.int .i64 1)).setCell ⟨ge, 5, none⟩ (.int .i64 (-1)) = W5 at *
                  go_upto_region 25 with (go_at_call 17; refine (HNL.out _).mono ?_; rintro e w6 ⟨y, oky, rfl, hNum, hb6⟩)
                  have HNY : Hid (NumR (xl.drop 2) y) := HDR.out ▸ hNum
                  have HS6 := Lib.hid (PD.out.on hb6)
                  have P7 := Lib.hid (HS6.out.put (i := 4) (by omega) (.int .i64 y) (k' := kk) (p' := p) (c' := c) (b' := 2) (y' := y) (d' := -1) rfl)
                  clear d0 d1 d2 d3 d4 d5 df hNum hb6
                  obtain ⟨d0, d1, d2, d3, d4, d5⟩ := HS6.out.box.six
                  have df := HS6.out.box.2.1
                  go_wp2_with fail
                  go_meet
                  exact ⟨2, y, -1, _, rfl, P7.out, .inl ⟨Hn.out, by rw [if_pos (HB0.out.2 (by first | rfl | trivial))], by rw [if_pos (HB1.out.2 (by first | rfl | trivial))], HNY.out⟩⟩
            case rest =>
              obtain ⟨b, y, d, w9, hw9, HR9, HY⟩ := hcut
              subst hw9
              clear HR5 d0 d1 d2 d3 d4 d5 df HBL HBZ HQ
              have HBU : Hid (BuiltS ws ⟨kk, p, c, b, y, d⟩) := by
                have g0 : ws.getD 0 [] = x0 := by rw [List.getD_eq_getElem?_getD, HW0.out]; rfl
                have g1 : ws.getD 1 [] = x1 := by rw [List.getD_eq_getElem?_getD, HW1.out]; rfl
                have g2 : ws.getD 2 [] = x2 := by rw [List.getD_eq_getElem?_getD, HW2.out]; rfl
                have gl : ws.getD (ws.length - 1) [] = xl := by rw [← HLEN.out, List.getD_eq_getElem?_getD, HWL.out]; rfl
                exact ⟨by rw [g0]; exact HK3.out, by rw [g1]; exact HNP.out, by rw [g2]; exact HCC.out, by rw [gl]; exact HY.out⟩
              have HFN : Hid (∀ x, valE 12 x = true → evT x = s.data.toList → x = ⟨kk, p, c, b, y, d⟩) := fun x hv ht => built_spec hv (by rw [← HU.out x hv ht]; exact HBU.out)
              obtain ⟨d0, d1, d2, d3, d4, d5⟩ := HR9.out.box.six
              have HE9 := Lib.hid (HE.out ⟨kk, p, c, b, y, d⟩ w9)
              by_cases ht : txE ⟨kk, p, c, b, y, d⟩ = s.data.toList
              · have HA := Lib.hid (rd_yes HFN.out ((tx_iff HNE2.out).1 ht).1 ((tx_iff HNE2.out).1 ht).2)
                have ht' : (txE ⟨kk, p, c, b, y, d⟩ == s.toList) = true := by rw [beq_iff_eq, Lib.toList_data]; exact ht
                clear ht HE HN HSp HU HNE2 HCC HY HBU
                go_upto_if 105 with (go_at_call 5; refine HE9.out.mono ?_; rintro e w10 ⟨rfl, hb10⟩)
                have HS10 := Lib.hid (HR9.out.on hb10)
                clear d0 d1 d2 d3 d4 d5 hb10
                obtain ⟨d0, d1, d2, d3, d4, d5⟩ := HS10.out.box.six
                obtain ⟨r0, r1, r2, r3, r4, r5⟩ := HS10.out.res.six
                have rf := HS10.out.res.2.1
                go_wp2_with fail
                refine bodyPost_ret (v := .tuple #[(⟨kk, p, c, b, y, d⟩ : Ev).v, .bool true]) (by simp [results, Tryd.results8, go_sem, r0, r1, r2, r3, r4, r5, World.cell?_setCell_other, Ev.v, Ev.cells]) rfl ⟨⟨_, rfl, HA.out⟩, below_set6 (o := 0) HS10.out.below (Nat.le_refl _) _ _ _ _ _ _⟩
              · have HA := Lib.hid (rd_no HFN.out (fun h => ht ((tx_iff HNE2.out).2 h)))
                have ht' : (txE ⟨kk, p, c, b, y, d⟩ == s.toList) = false := by rw [beq_eq_false_iff_ne, Lib.toList_data]; exact ht
                clear ht HE HN HSp HU HNE2 HCC HY HBU
                go_upto_if 105 with (go_at_call 5; refine HE9.out.mono ?_; rintro e w10 ⟨rfl, hb10⟩)
                have HS10 := Lib.hid (HR9.out.on hb10)
                clear d0 d1 d2 d3 d4 d5 hb10
                obtain ⟨d0, d1, d2, d3, d4, d5⟩ := HS10.out.box.six
                obtain ⟨r0, r1, r2, r3, r4, r5⟩ := HS10.out.res.six
                have rf := HS10.out.res.2.1
                go_wp2_with fail
                refine bodyPost_ret (v := .tuple #[zE.v, .bool false]) (by simp [results, Tryd.results8, go_sem, r0, r1, r2, r3, r4, r5, World.cell?_setCell_other, Ev.v, Ev.cells, zE]) rfl ⟨⟨_, rfl, HA.out⟩, below_set6 (o := 0) HS10.out.below (Nat.le_refl _) _ _ _ _ _ _⟩

end Go.Proofs.YtgkapjjolhnliaaDoor
