/-
  Texts joined: RdG.
-/
import Derived.Test.YtgkapjjolhnliaaGreatDoorPk1
/-
  The program's ReadEvent.
-/
namespace Go.Proofs.YtgkapjjolhnliaaGreatDoor
set_option linter.unusedVariables false
set_option linter.unusedSimpArgs false
open Go.RowKit Go.Shelf

/-- Before the event's box is made. -/
structure RdPre (w wx : World) (gw : Nat) (ws : List (List UInt8)) : Prop where
  below : Below w.heap.size w wx
  res : Bx wx w.heap.size [.int .i64 0, .int .i64 0, .int .i64 0, .int .i64 0, .int .i64 0, .int .i64 0]
  words : ∀ (j : Nat) (x : List UInt8), ws[j]? = some x → wx.cell? ⟨gw, j, none⟩ = some (strV x)
  o1 : w.heap.size < gw
  o2 : gw < wx.heap.size
theorem RdPre.on {w wx wy : World} {gw : Nat} {ws : List (List UInt8)} (h : RdPre w wx gw ws) (hb : Below wx.heap.size wx wy) : RdPre w wy gw ws :=
  ⟨h.below.trans (hb.mono (by have := h.res.2.2; omega)), h.res.below hb h.res.2.2, fun j x hx => (hb.cell (p := ⟨gw, j, none⟩) (block_lt_of_cell (h.words j x hx))).trans (h.words j x hx), h.o1, Nat.lt_of_lt_of_le h.o2 hb.size⟩
theorem RdPre.drew {w wx : World} {gw : Nat} {ws : List (List UInt8)} (h : RdPre w wx gw ws) : RdPre w wx.drew gw ws := ⟨h.below.drew, h.res, h.words, h.o1, h.o2⟩
theorem RdPre.alloc {w wx : World} {gw : Nat} {ws : List (List UInt8)} (h : RdPre w wx gw ws) (o : Obj) : RdPre w (wx.alloc o) gw ws := h.on ((Below.refl _ _).alloc (Nat.le_refl _) o)
theorem RdPre.st {w wx : World} {gw ge : Nat} {ws : List (List UInt8)} {k p c b y d : Int} (h : RdPre w wx gw ws) (hb : Bx wx ge [.int .i64 k, .int .i64 p, .int .i64 c, .int .i64 b, .int .i64 y, .int .i64 d]) (hg : gw < ge) : RdSt w.heap.size w wx w.heap.size gw ge ws k p c b y d :=
  ⟨h.below, h.res, h.words, hb, Nat.le_refl _, h.o1, hg⟩
/-- The box is made behind the words' call. -/
theorem pre_alloc {w w1 w2 : World} {gw : Nat} {ws : List (List UInt8)} (h : RdPre w w1 gw ws) (hb : Below w1.drew.heap.size w1.drew w2) (k : Int) (t : TypeId) :
    RdSt w.heap.size w (w2.alloc (.cells #[.int .i64 k, .int .i64 0, .int .i64 0, .int .i64 0, .int .i64 0, .int .i64 0] t)) w.heap.size gw w2.heap.size ws k 0 0 0 0 0 :=
  ((h.drew.on hb).alloc _).st (Bx.new w2 [.int .i64 k, .int .i64 0, .int .i64 0, .int .i64 0, .int .i64 0, .int .i64 0] t) (h.drew.on hb).o2
/-- The box is made before it. -/
theorem pre_set {w w1 w2 : World} {gw : Nat} {ws : List (List UInt8)} {t : TypeId} (h : RdPre w w1 gw ws) (hb : Below (w1.alloc (.cells #[.int .i64 0, .int .i64 0, .int .i64 0, .int .i64 0, .int .i64 0, .int .i64 0] t)).drew.heap.size (w1.alloc (.cells #[.int .i64 0, .int .i64 0, .int .i64 0, .int .i64 0, .int .i64 0, .int .i64 0] t)).drew w2) (k : Int) :
    RdSt w.heap.size w ((((((w2.setCell ⟨w1.heap.size, 0, none⟩ (.int .i64 k)).setCell ⟨w1.heap.size, 1, none⟩ (.int .i64 0)).setCell ⟨w1.heap.size, 2, none⟩ (.int .i64 0)).setCell ⟨w1.heap.size, 3, none⟩ (.int .i64 0)).setCell ⟨w1.heap.size, 4, none⟩ (.int .i64 0)).setCell ⟨w1.heap.size, 5, none⟩ (.int .i64 0)) w.heap.size gw w1.heap.size ws k 0 0 0 0 0 := by
  have h1 : RdSt w.heap.size w w2 w.heap.size gw w1.heap.size ws 0 0 0 0 0 0 := ((h.alloc _).drew.on hb).st (((Bx.new w1 [.int .i64 0, .int .i64 0, .int .i64 0, .int .i64 0, .int .i64 0, .int .i64 0] t).drew).below hb (by show _ < (w1.alloc _).heap.size; rw [World.size_alloc]; exact Nat.lt_succ_self _)) h.o2
  have h2 := h1.put (i := 0) (by omega) (.int .i64 k) (k' := k) (p' := 0) (c' := 0) (b' := 0) (y' := 0) (d' := 0) rfl
  have h3 := h2.put (i := 1) (by omega) (.int .i64 0) (k' := k) (p' := 0) (c' := 0) (b' := 0) (y' := 0) (d' := 0) rfl
  have h4 := h3.put (i := 2) (by omega) (.int .i64 0) (k' := k) (p' := 0) (c' := 0) (b' := 0) (y' := 0) (d' := 0) rfl
  have h5 := h4.put (i := 3) (by omega) (.int .i64 0) (k' := k) (p' := 0) (c' := 0) (b' := 0) (y' := 0) (d' := 0) rfl
  have h6 := h5.put (i := 4) (by omega) (.int .i64 0) (k' := k) (p' := 0) (c' := 0) (b' := 0) (y' := 0) (d' := 0) rfl
  exact h6.put (i := 5) (by omega) (.int .i64 0) (k' := k) (p' := 0) (c' := 0) (b' := 0) (y' := 0) (d' := 0) rfl
def wordsB : List ByteArray := [⟨#[]⟩, ⟨#[99, 114, 111, 115, 115]⟩, ⟨#[107, 110, 105, 116]⟩, ⟨#[116, 117, 99, 107]⟩, ⟨#[100, 114, 111, 112]⟩, ⟨#[115, 112, 108, 105, 116]⟩]
/-- The place of a word among the events' words. -/
def idxW (x : List UInt8) : Int := Lib.idxOfS wordsB ⟨x.toArray⟩
theorem wIndex_any (x : List UInt8) (g : Nat) (W : World) (h : CellsAt W g 0 wordsL) : Calls Tryz.prog 15 #[.slice (some ⟨g, 0, none⟩) 6 6, strV x] W fun e w' => e = .returned (.int .i64 (idxW x)) ∧ w' = W :=
  AnyG.slices_Index_string idxLay g 0 6 6 wordsB ⟨x.toArray⟩ W (by decide) (by decide) (fun j hj => by
    have hj' : j < 6 := hj
    have : j = 0 ∨ j = 1 ∨ j = 2 ∨ j = 3 ∨ j = 4 ∨ j = 5 := by omega
    rcases this with rfl | rfl | rfl | rfl | rfl | rfl
    · exact h 0 _ rfl
    · exact h 1 _ rfl
    · exact h 2 _ rfl
    · exact h 3 _ rfl
    · exact h 4 _ rfl
    · exact h 5 _ rfl)
theorem idxW_kw (x : List UInt8) : max 0 (idxW x) = kwS x := by
  by_cases h0 : x = []
  · subst h0; decide
  by_cases h1 : x = wordK 1
  · subst h1; decide
  by_cases h2 : x = wordK 2
  · subst h2; decide
  by_cases h3 : x = wordK 3
  · subst h3; decide
  by_cases h4 : x = wordK 4
  · subst h4; decide
  by_cases h5 : x = wordK 5
  · subst h5; decide
  have hk : kwS x = 0 := by unfold kwS; rw [if_neg h5, if_neg h4, if_neg h3, if_neg h2, if_neg h1]
  have hb : ∀ l : List UInt8, x ≠ l → (⟨l.toArray⟩ : ByteArray) ≠ ⟨x.toArray⟩ := fun l h e => h (by have := congrArg (fun b : ByteArray => b.data.toList) e; simpa using this.symm)
  have hi : idxW x = -1 := by
    unfold idxW Lib.idxOfS wordsB
    have e0 := hb [] h0
    have e1 := hb [99, 114, 111, 115, 115] h1
    have e2 := hb [107, 110, 105, 116] h2
    have e3 := hb [116, 117, 99, 107] h3
    have e4 := hb [100, 114, 111, 112] h4
    have e5 := hb [115, 112, 108, 105, 116] h5
    simp only [Lib.idxFromS]
    rw [if_neg e0, if_neg e1, if_neg e2, if_neg e3, if_neg e4, if_neg e5]
  rw [hi, hk]
  rfl
set_option maxHeartbeats 8000000 in
set_option maxRecDepth 100000 in
theorem implReadEvent_any (s : ByteArray) (hs : s.size ≤ 1048576) (B0 : Nat) (w : World) (hB : B0 ≤ w.heap.size) (hL : LibW B0 w) : Calls Tryz.prog 5 #[.string s] w (RdAns s.data.toList w) := by
  have HLW := Lib.hid hL
  have HB0 := Lib.hid hB
  have HSp := Lib.hid (fun (W : World) (h : LibW B0 W) => SplitWords_any s hs B0 W h)
  have hN : ∀ (l : List UInt8) (hl : l.length ≤ 1048576) (W : World), B0 ≤ W.heap.size → LibW B0 W → Calls Tryz.prog 17 #[.string ⟨l.toArray⟩] W (NumC l W) := fun l hl W h1 h2 => ReadDecimal_any ⟨l.toArray⟩ (by show l.toArray.size ≤ _; simpa using hl) B0 W h1 h2
  have HN := Lib.hid hN
  have HL : Hid (∀ l ∈ fW s.data.toList, l.length ≤ 1048576) := fun l hl => by
    have h1 := spl_len 32 s.data.toList [] l (List.mem_filter.1 hl).1
    simp at h1
    omega
  have HU := Lib.hid (fun (x : Ev) (hv : valE 12 x = true) (ht : evT x = s.data.toList) => show fW s.data.toList = evW x by rw [← ht]; exact fW_evT hv)
  clear hN hL hB
  generalize fW s.data.toList = ws at *
  go_enter Tryz.func5, Tryz.ntmps5
  go_upto_region 2 with (go_at_call 14; refine (HSp.out _ (HLW.out.on (((Below.refl _ _).alloc (Nat.le_refl _) _).mono HB0.out))).mono ?_; rintro e w1 ⟨gw, cap, rfl, hgw, hcap, hcap2, hcw, hB1⟩)
  have HB1 := Lib.hid hB1
  have HX : Hid (Below w.heap.size w w1) := ((Below.refl _ _).alloc (Nat.le_refl _) _).trans (hB1.mono (by simp))
  have HX0 := Lib.hid ((Bx.new w [.int .i64 0, .int .i64 0, .int .i64 0, .int .i64 0, .int .i64 0, .int .i64 0] 26).below hB1 (by simp))
  have HCW := Lib.hid hcw
  clear HSp hB1 hcw
  by_cases hlen : 2 ≤ ws.length ∧ ws.length ≤ 4
  case neg =>
    have HQ := Lib.hid (rd_none (s := s.data.toList) (fun x hv ht => by
      have h9 := HU.out x hv ht
      rw [h9] at hlen
      rcases evW_cases hv with ⟨_, r⟩ | ⟨_, r⟩ | ⟨_, r⟩ <;> (rw [r] at hlen; simp at hlen)))
    obtain ⟨r0, r1, r2, r3, r4, r5⟩ := HX0.out.six
    have rf := HX0.out.2.1
    clear HU HL
    by_cases h1 : ws.length < 2
    · go_wp2_with fail
      refine bodyPost_ret (v := .tuple #[zE.v, .bool false]) (by simp [results, Tryz.results5, go_sem, r0, r1, r2, r3, r4, r5, World.cell?_setCell_other, Ev.v, Ev.cells, zE]) rfl ⟨⟨_, rfl, HQ.out⟩, below_set6 (o := 0) HX.out (Nat.le_refl _) _ _ _ _ _ _⟩
    · have h2 : 4 < ws.length := by omega
      clear hlen
      go_wp2_with fail
      refine bodyPost_ret (v := .tuple #[zE.v, .bool false]) (by simp [results, Tryz.results5, go_sem, r0, r1, r2, r3, r4, r5, World.cell?_setCell_other, Ev.v, Ev.cells, zE]) rfl ⟨⟨_, rfl, HQ.out⟩, below_set6 (o := 0) HX.out (Nat.le_refl _) _ _ _ _ _ _⟩
  case pos =>
    obtain ⟨hl2, hl4⟩ := hlen
    have hgw' : w.heap.size < gw := by simp at hgw; omega
    have hgwl : gw < w1.heap.size := block_lt_of_cell (HCW.out 0 _ (List.getElem?_eq_getElem (by omega)))
    obtain ⟨n, hn⟩ : ∃ n, n = ws.length := ⟨_, rfl⟩
    obtain ⟨x0, hx0⟩ : ∃ x, ws[0]? = some x := ⟨_, List.getElem?_eq_getElem (by omega)⟩
    obtain ⟨x1, hx1⟩ : ∃ x, ws[1]? = some x := ⟨_, List.getElem?_eq_getElem (by omega)⟩
    have hs1 : x1.length ≤ 1048576 := HL.out x1 (List.mem_of_getElem? hx1)
    have HW0 := Lib.hid hx0
    have HW1 := Lib.hid hx1
    have HLEN := Lib.hid hn
    rw [← hn] at hl2 hl4 hcap ⊢
    have x0c : w1.cell? ⟨gw, 0, none⟩ = some (strV x0) := HCW.out 0 x0 hx0
    have HGW := Lib.hid hgw'
    have HGL := Lib.hid hgwl
    clear hx0 hx1 hn hgw hgw' hgwl
    go_upto_region 4 with fail
    go_cut [5] (fun s5 wx => ∃ (ge : Nat) (wq : World), wq = wx ∧ s5 = .pointer (some ⟨ge, 0, none⟩) ∧ Hid (RdSt w.heap.size w wx w.heap.size gw ge ws (kwS x0) 0 0 0 0 0))
    case first =>
      have hKW := idxW_kw x0
      have hn0 : (0 : Int) < (n : Int) := by omega
      have hn1 : 0 < n := by omega
      have x0b : ∀ o, (w1.alloc o).cell? ⟨gw, 0, none⟩ = some (strV x0) := fun o => (World.cell?_alloc_lt w1 o ⟨gw, 0, none⟩ HGL.out).trans x0c
      have HI := Lib.hid (fun (g : Nat) (W : World) (h : CellsAt W g 0 wordsL) => wIndex_any x0 g W h)
      have HPR : Hid (RdPre w w1 gw ws) := ⟨HX.out, HX0.out, HCW.out, HGW.out, HGL.out⟩
      go_region_with (first
          | (go_at_call 16; refine (eventWords_any _).mono ?_; rintro e w2 ⟨g6, rfl, hgl, hgc, hgb⟩; first | (have HRES := Lib.hid (pre_alloc HPR.out hgb (kwS x0) 26); have y0 : w2.cell? ⟨gw, 0, none⟩ = some (strV x0) := (hgb.cell (p := ⟨gw, 0, none⟩) HGL.out).trans x0c; have y0b : ∀ o, (w2.alloc o).cell? ⟨gw, 0, none⟩ = some (strV x0) := fun o => (World.cell?_alloc_lt w2 o ⟨gw, 0, none⟩ (block_lt_of_cell y0)).trans y0) | (have HRES := Lib.hid (pre_set HPR.out hgb (kwS x0)); have bz := ((Bx.new w1 [.int .i64 0, .int .i64 0, .int .i64 0, .int .i64 0, .int .i64 0, .int .i64 0] 26).drew).below hgb (by show _ < (w1.alloc _).heap.size; rw [World.size_alloc]; exact Nat.lt_succ_self _); obtain ⟨z0, z1, z2, z3, z4, z5⟩ := bz.six; have zf := bz.2.1; have y0 : w2.cell? ⟨gw, 0, none⟩ = some (strV x0) := (hgb.cell (p := ⟨gw, 0, none⟩) (by show _ < (w1.alloc _).heap.size; rw [World.size_alloc]; exact Nat.lt_succ_of_lt HGL.out)).trans (x0b _)))
          | (go_at_call 15; refine (HI.out g6 _ (by first | exact hgc | exact hgc.alloc (block_lt_of_cell (hgc 0 _ rfl)) _)).mono ?_; rintro e w3 ⟨rfl, rfl⟩))
      all_goals
        go_wp2_with fail
        go_meet
        exact ⟨_, _, rfl, rfl, HRES.out⟩
    case rest =>
      obtain ⟨ge, wq, hwq, rfl, HR⟩ := hcut
      subst hwq
      obtain ⟨d0, d1, d2, d3, d4, d5⟩ := HR.out.box.six
      have df := HR.out.box.2.1
      have q1 := HR.out.words 1 x1 HW1.out
      have HSZ := Lib.hid (fun (W : World) (h : Below w.heap.size w W) => Nat.le_trans HB0.out h.size)
      go_upto_region 6 with (go_at_call 17; refine (HN.out x1 hs1 _ (HSZ.out _ HR.out.below) (HLW.out.on (HR.out.below.mono HB0.out))).mono ?_; rintro e w3 ⟨p, okp, rfl, hNum, hb3⟩; have HS4 := Lib.hid (HR.out.on hb3); have HNP : Hid (NumR x1 p) := hNum; have HP := Lib.hid (HS4.out.put (i := 1) (by omega) (.int .i64 p) (k' := kwS x0) (p' := p) (c' := 0) (b' := 0) (y' := 0) (d' := 0) rfl); clear hb3 hNum d0 d1 d2 d3 d4 d5 df q1; obtain ⟨d0, d1, d2, d3, d4, d5⟩ := HS4.out.box.six; have df := HS4.out.box.2.1)
      generalize w3.setCell ⟨ge, 1, none⟩ (.int .i64 p) = w4 at *
      have HKK := Lib.hid (show kwS (ws.getD 0 []) = kwS x0 by rw [List.getD_eq_getElem?_getD, HW0.out]; rfl)
      generalize kwS x0 = kk at *
      clear HR HS4 d0 d1 d2 d3 d4 d5 df x0c
      go_cut [6] (fun s6 wx => ∃ (ad : Option Addr) (r c2 : Nat), w4 = wx ∧ s6 = .slice ad r c2 ∧ r + 2 = n ∧ r ≤ c2 ∧ Hid (0 < r → ad = some ⟨gw, 2, none⟩))
      case first =>
        by_cases hc2 : cap = 2
        · go_wp2_with fail
          go_meet
          exact ⟨_, n - 2, cap - 2, rfl, by congr 1; all_goals omega, by omega, by omega, fun h => by omega⟩
        · go_wp2_with fail
          go_meet
          exact ⟨_, n - 2, cap - 2, rfl, by first | rfl | (congr 1), by omega, by omega, fun h => rfl⟩
      case rest =>
        obtain ⟨ad, r, c2, hw4, rfl, hrn, hrc, HAD⟩ := hcut
        subst hw4
        obtain ⟨d0, d1, d2, d3, d4, d5⟩ := HP.out.box.six
        have df := HP.out.box.2.1
        go_upto_region 7 with fail
        go_cut [42] (fun s42 wx => ∃ q : Bool, w4 = wx ∧ s42 = .bool q ∧ Hid (q = true ↔ (kk ≠ 3 ∧ 0 < r)))
        case first =>
          by_cases h3 : kk = 3
          · have h3' : (kk != 3) = false := by simp [h3]
            have H3 := Lib.hid h3
            clear h3
            go_wp2_with fail
            go_meet
            exact ⟨_, rfl, rfl, by unfold Hid; simp [H3.out]⟩
          · have h3' : (kk != 3) = true := by simpa using h3
            have H3 := Lib.hid h3
            clear h3
            go_wp2_with fail
            go_meet
            exact ⟨_, rfl, rfl, by unfold Hid; have := H3.out; simp; omega⟩
        case rest =>
          obtain ⟨q, hw4, rfl, HQ⟩ := hcut
          subst hw4
          go_upto_if 42 with fail
          go_cut [6] (fun s6 wx => ∃ (ad3 : Option Addr) (r3 c3 : Nat) (c : Int) (w5 : World), w5 = wx ∧ s6 = .slice ad3 r3 c3 ∧ r3 ≤ c3 ∧ Hid (RdSt w.heap.size w wx w.heap.size gw ge ws kk p c 0 0 0) ∧
            Hid (((kk ≠ 3 ∧ 2 < n) ∧ NumR (ws.getD 2 []) c ∧ r3 + 3 = n ∧ (0 < r3 → ad3 = some ⟨gw, 3, none⟩)) ∨ (¬ (kk ≠ 3 ∧ 2 < n) ∧ c = 0 ∧ r3 + 2 = n ∧ (0 < r3 → ad3 = some ⟨gw, 2, none⟩))))
          case first =>
            cases q with
            | false =>
              have Hn := Lib.hid (show ¬ (kk ≠ 3 ∧ 2 < n) from fun h => by have := HQ.out.2 ⟨h.1, by omega⟩; cases this)
              clear HQ
              go_wp2_with fail
              go_meet
              exact ⟨ad, r, c2, 0, _, rfl, rfl, hrc, HP.out, .inr ⟨Hn.out, rfl, hrn, HAD.out⟩⟩
            | true =>
              have Hn := Lib.hid (HQ.out.1 rfl)
              have hr0 : 0 < r := Hn.out.2
              have hr1 : (0 : Int) < (r : Int) := by omega
              obtain rfl := HAD.out hr0
              obtain ⟨x2, hx2⟩ : ∃ x, ws[2]? = some x := ⟨_, List.getElem?_eq_getElem (by rw [← HLEN.out]; omega)⟩
              have hs2 : x2.length ≤ 1048576 := HL.out x2 (List.mem_of_getElem? hx2)
              have q2 := HP.out.words 2 x2 hx2
              have HX2 : Hid (ws.getD 2 [] = x2) := by unfold Hid; rw [List.getD_eq_getElem?_getD, hx2]; rfl
              clear HQ hx2
              go_upto_region 9 with (go_at_call 17; refine (HN.out x2 hs2 _ (HSZ.out _ HP.out.below) (HLW.out.on (HP.out.below.mono HB0.out))).mono ?_; rintro e w5 ⟨c, okc, rfl, hNum, hb5⟩; have HS5 := Lib.hid (HP.out.on hb5); have HNC : Hid (NumR x2 c) := hNum; have HP5 := Lib.hid (HS5.out.put (i := 2) (by omega) (.int .i64 c) (k' := kk) (p' := p) (c' := c) (b' := 0) (y' := 0) (d' := 0) rfl); clear hb5 hNum d0 d1 d2 d3 d4 d5 df q2; obtain ⟨d0, d1, d2, d3, d4, d5⟩ := HS5.out.box.six; have df := HS5.out.box.2.1)
              generalize w5.setCell ⟨ge, 2, none⟩ (.int .i64 c) = w6 at *
              clear HS5 d0 d1 d2 d3 d4 d5 df
              by_cases hc1 : c2 = 1
              · go_wp2_with fail
                go_meet
                exact ⟨_, r - 1, c2 - 1, c, _, rfl, by congr 1; all_goals omega, by omega, HP5.out, .inl ⟨⟨Hn.out.1, by omega⟩, by rw [HX2.out]; exact HNC.out, by omega, fun h => by omega⟩⟩
              · go_wp2_with fail
                go_meet
                exact ⟨_, r - 1, c2 - 1, c, _, rfl, by first | rfl | (congr 1), by omega, HP5.out, .inl ⟨⟨Hn.out.1, by omega⟩, by rw [HX2.out]; exact HNC.out, by omega, fun h => rfl⟩⟩
          case rest =>
            obtain ⟨ad3, r3, c3, c, w5, hw5, rfl, hr3, HR5, HC5⟩ := hcut
            subst hw5
            clear HP d0 d1 d2 d3 d4 d5 df HQ HAD hrn hrc
            go_upto_if 55 with fail
            go_cut [] (fun wx => ∃ (b y d : Int) (w6 : World), w6 = wx ∧ Hid (RdSt w.heap.size w wx w.heap.size gw ge ws kk p c b y d) ∧ Hid ((0 < r3 ∧ 3 ≤ (ws.getD (n - r3) []).length ∧ YarnR (ws.getD (n - r3) []) ⟨kk, p, c, b, y, d⟩) ∨ (¬ (0 < r3 ∧ 3 ≤ (ws.getD (n - r3) []).length) ∧ Bare ⟨kk, p, c, b, y, d⟩)))
            case first =>
              by_cases hr0 : 0 < r3
              · have hr1 : (0 : Int) < (r3 : Int) := by omega
                obtain ⟨xr, hxr⟩ : ∃ x, ws[n - r3]? = some x := ⟨_, List.getElem?_eq_getElem (by rw [← HLEN.out]; rcases HC5.out with h | h <;> omega)⟩
                have had : ad3 = some ⟨gw, n - r3, none⟩ := by
                  rcases HC5.out with ⟨_, _, h, h2⟩ | ⟨_, _, h, h2⟩
                  · rw [h2 hr0]; congr 2; omega
                  · rw [h2 hr0]; congr 2; omega
                subst had
                have hsr : xr.length ≤ 1048576 := HL.out xr (List.mem_of_getElem? hxr)
                have q3 := HR5.out.words (n - r3) xr hxr
                have HXR : Hid (ws.getD (n - r3) [] = xr) := by unfold Hid; rw [List.getD_eq_getElem?_getD, hxr]; rfl
                have HYN := Lib.hid (readYarn_any xr hsr B0 w w5 w.heap.size gw ge ws kk p c HB0.out HLW.out HR5.out)
                generalize n - r3 = j at *
                clear hxr HC5
                go_wp2_with (go_at_call 18; refine HYN.out.mono ?_; rintro e w6 ⟨rfl, b, y, d, hst, hyr⟩; have HST := Lib.hid hst; have HYR := Lib.hid hyr; clear hst hyr)
                go_meet
                exact ⟨b, y, d, _, rfl, HST.out, by unfold Hid; rw [HXR.out]; rcases HYR.out with h | h; (exact .inl ⟨hr0, h.1, h.2⟩); (exact .inr ⟨fun h9 => h.1 h9.2, h.2⟩)⟩
              · have hr1 : r3 = 0 := by omega
                subst hr1
                go_wp2_with fail
                go_meet
                exact ⟨0, 0, 0, _, rfl, HR5.out, .inr ⟨fun h => by omega, rfl, rfl, rfl⟩⟩
            case rest =>
              obtain ⟨b, y, d, w6, hw6, HR6, HY6⟩ := hcut
              subst hw6
              have HBU : Hid (BuiltI ws ⟨kk, p, c, b, y, d⟩) := by
                have hlen := HLEN.out
                refine ⟨HKK.out.symm, by rw [List.getD_eq_getElem?_getD, HW1.out]; exact HNP.out, ?_⟩
                rcases HC5.out with ⟨h1, h2, h3, -⟩ | ⟨h1, h2, h3, -⟩
                · have e3 : n - r3 = 3 := by omega
                  have h6 := HY6.out
                  rw [e3] at h6
                  refine .inl ⟨⟨h1.1, by omega⟩, h2, ?_⟩
                  rcases h6 with h | h
                  · exact .inl ⟨by omega, h.2.1, h.2.2⟩
                  · exact .inr ⟨fun h9 => h.1 ⟨by omega, h9.2⟩, h.2⟩
                · have e3 : n - r3 = 2 := by omega
                  have h6 := HY6.out
                  rw [e3] at h6
                  refine .inr ⟨fun h9 => h1 ⟨h9.1, by omega⟩, h2, ?_⟩
                  rcases h6 with h | h
                  · exact .inl ⟨by omega, h.2.1, h.2.2⟩
                  · exact .inr ⟨fun h9 => h.1 ⟨by omega, h9.2⟩, h.2⟩
              have HFN : Hid (∀ x, valE 12 x = true → evT x = s.data.toList → x = ⟨kk, p, c, b, y, d⟩) := fun x hv ht => built_impl hv (by rw [← HU.out x hv ht]; exact HBU.out)
              clear HC5 HY6 HBU HR5
              obtain ⟨d0, d1, d2, d3, d4, d5⟩ := HR6.out.box.six
              cases hv : valE 12 ⟨kk, p, c, b, y, d⟩ with
              | false =>
                have HA := Lib.hid (rd_no HFN.out (fun h => by rw [hv] at h; cases h.1))
                have HV := Lib.hid (valid_any ⟨kk, p, c, b, y, d⟩ 12 (by omega) (by omega) w6)
                rw [hv] at HV
                clear hv
                go_upto_if 68 with (go_at_call 19; refine HV.out.mono ?_; rintro e w7 ⟨rfl, hb7⟩)
                have HS7 := Lib.hid (HR6.out.on hb7)
                clear hb7 d0 d1 d2 d3 d4 d5
                obtain ⟨r0, r1, r2, r3', r4, r5⟩ := HS7.out.res.six
                have rf := HS7.out.res.2.1
                go_wp2_with fail
                refine bodyPost_ret (v := .tuple #[zE.v, .bool false]) (by simp [results, Tryz.results5, go_sem, r0, r1, r2, r3', r4, r5, World.cell?_setCell_other, Ev.v, Ev.cells, zE]) rfl ⟨⟨_, rfl, HA.out⟩, below_set6 (o := 0) HS7.out.below (Nat.le_refl _) _ _ _ _ _ _⟩
              | true =>
                have HV := Lib.hid (valid_any ⟨kk, p, c, b, y, d⟩ 12 (by omega) (by omega) w6)
                rw [hv] at HV
                have HVV := Lib.hid hv
                have hf := val_facts hv
                obtain ⟨⟨hk1, hk5⟩, hp, hc, hy, hby, hd⟩ := hf
                obtain ⟨k, rfl⟩ := Int.eq_ofNat_of_zero_le (show 0 ≤ kk by have : 1 ≤ kk := hk1; omega)
                have HE := Lib.hid (fun (W : World) (hT : TabW W.heap.size W) => eventText_any k p c b y d (by have : (1 : Int) ≤ k := hk1; omega) (by have : (k : Int) ≤ 5 := hk5; omega) hp hc hy hby hd W hT)
                clear hk1 hk5 hp hc hy hby hd hv
                have HT7 := Lib.hid (fun (W : World) (hb : Below w.heap.size w W) => show TabW W.heap.size W from fun W2 hW2 => (HLW.out.tab.on (hb.mono HB0.out)) W2 (hW2.mono (Nat.le_trans HB0.out hb.size)))
                by_cases ht : evT ⟨k, p, c, b, y, d⟩ = s.data.toList
                · have HA := Lib.hid (rd_yes HFN.out HVV.out ht)
                  have ht' : (evT ⟨k, p, c, b, y, d⟩ == s.toList) = true := by rw [beq_iff_eq, Lib.toList_data]; exact ht
                  clear ht
                  go_upto_if 68 with (first
                    | (go_at_call 19; refine HV.out.mono ?_; rintro e w7 ⟨rfl, hb7⟩; have HS7 := Lib.hid (HR6.out.on hb7); clear d0 d1 d2 d3 d4 d5; obtain ⟨d0, d1, d2, d3, d4, d5⟩ := HS7.out.box.six)
                    | (go_at_call 20; refine (HE.out _ (HT7.out _ HS7.out.below)).mono ?_; rintro e w8 ⟨rfl, hb8⟩; unfold strV))
                  have HS8 := Lib.hid (HS7.out.on hb8)
                  clear hb7 hb8 d0 d1 d2 d3 d4 d5
                  obtain ⟨d0, d1, d2, d3, d4, d5⟩ := HS8.out.box.six
                  obtain ⟨r0, r1, r2, r3', r4, r5⟩ := HS8.out.res.six
                  have rf := HS8.out.res.2.1
                  go_wp2_with fail
                  refine bodyPost_ret (v := .tuple #[(⟨k, p, c, b, y, d⟩ : Ev).v, .bool true]) (by simp [results, Tryz.results5, go_sem, r0, r1, r2, r3', r4, r5, World.cell?_setCell_other, Ev.v, Ev.cells]) rfl ⟨⟨_, rfl, HA.out⟩, below_set6 (o := 0) HS8.out.below (Nat.le_refl _) _ _ _ _ _ _⟩
                · have HA := Lib.hid (rd_no HFN.out (fun h => ht h.2))
                  have ht' : (evT ⟨k, p, c, b, y, d⟩ == s.toList) = false := by rw [beq_eq_false_iff_ne, Lib.toList_data]; exact ht
                  clear ht
                  go_upto_if 68 with (first
                    | (go_at_call 19; refine HV.out.mono ?_; rintro e w7 ⟨rfl, hb7⟩; have HS7 := Lib.hid (HR6.out.on hb7); clear d0 d1 d2 d3 d4 d5; obtain ⟨d0, d1, d2, d3, d4, d5⟩ := HS7.out.box.six)
                    | (go_at_call 20; refine (HE.out _ (HT7.out _ HS7.out.below)).mono ?_; rintro e w8 ⟨rfl, hb8⟩; unfold strV))
                  have HS8 := Lib.hid (HS7.out.on hb8)
                  clear hb7 hb8 d0 d1 d2 d3 d4 d5
                  obtain ⟨r0, r1, r2, r3', r4, r5⟩ := HS8.out.res.six
                  have rf := HS8.out.res.2.1
                  go_wp2_with fail
                  refine bodyPost_ret (v := .tuple #[zE.v, .bool false]) (by simp [results, Tryz.results5, go_sem, r0, r1, r2, r3', r4, r5, World.cell?_setCell_other, Ev.v, Ev.cells, zE]) rfl ⟨⟨_, rfl, HA.out⟩, below_set6 (o := 0) HS8.out.below (Nat.le_refl _) _ _ _ _ _ _⟩

end Go.Proofs.YtgkapjjolhnliaaGreatDoor
