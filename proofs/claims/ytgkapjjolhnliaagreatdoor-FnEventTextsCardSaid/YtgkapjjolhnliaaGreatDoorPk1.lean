/-
  Texts joined: RdA, RdB, RdC, RdD, RdS, RdE, RdF.
-/
import Derived.Test.YtgkapjjolhnliaaGreatDoorRdP
import Derived.Test.YtgkapjjolhnliaaGreatDoorEvtA
import Derived.Test.YtgkapjjolhnliaaGreatDoorRdN
import Derived.Test.YtgkapjjolhnliaaGreatDoorDec
import Derived.Deep.RegionWith
import Derived.Deep.DeepCutAuto
import Derived.Deep.CutRange
import Derived.Deep.CutBlock
import Derived.Test.YtgkapjjolhnliaaGreatDoorRdQ
import Derived.Test.YtgkapjjolhnliaaGreatDoorBx0
import Derived.Test.YtgkapjjolhnliaaGreatDoorDecI
import Derived.Shelf.Strconv.ErrVarParseInt
import Derived.Shelf.Strings.Split
import Derived.Lib.SplitLaws
import Derived.Shelf.SlicesE.DeleteFunc
import Derived.Shelf.SlicesG.Turned
import Derived.Shelf.SlGeneric
import Derived.Ground.SlgfProg
import Derived.Ground.SlgnProg
import Derived.Lib.OwnBridge
/-
  The reference's l01Split.
-/
namespace Go.Proofs.YtgkapjjolhnliaaGreatDoor
set_option linter.unusedVariables false
set_option linter.unusedSimpArgs false
open Go.RowKit


end Go.Proofs.YtgkapjjolhnliaaGreatDoor

/-
  The reference's l01Number.
-/
namespace Go.Proofs.YtgkapjjolhnliaaGreatDoor
set_option linter.unusedVariables false
set_option linter.unusedSimpArgs false
open Go.RowKit

theorem ba_head (s : ByteArray) (h : 0 < s.size) : s.data.toList.head? = some s[0] := by
  rw [List.head?_eq_getElem?, List.getElem?_eq_getElem (by simpa using h)]
  rfl
theorem ba_drop (s : ByteArray) (k : Nat) : (s.extract k s.size).data.toList = s.data.toList.drop k := by
  rw [ByteArray.data_extract, Array.toList_extract]
  simp only [List.extract_eq_take_drop]
  exact List.take_of_length_le (by simp)
theorem ba_len (s : ByteArray) : s.data.toList.length = s.size := by simp
theorem ba_eq (s : ByteArray) (l : List UInt8) : (⟨l.toArray⟩ : ByteArray) = s ↔ l = s.data.toList := by
  constructor
  · intro h; rw [← h]
  · intro h; apply ByteArray.ext; rw [h]
/-- What reading a number's word answers. -/
def NumC (l : List UInt8) (w : World) (e : Ending) (w' : World) : Prop := ∃ n ok, e = .returned (.tuple #[.int .i64 n, .bool ok]) ∧ NumR l n ∧ Below w.heap.size w w'

end Go.Proofs.YtgkapjjolhnliaaGreatDoor

/-
  The reference's ReadEvent.
-/
namespace Go.Proofs.YtgkapjjolhnliaaGreatDoor
set_option linter.unusedVariables false
set_option linter.unusedSimpArgs false
open Go.RowKit

/-- The kind of a word, of those below k. -/
def kwP (l : List UInt8) : Nat → Int
  | 0 => 0
  | k + 1 => if 1 ≤ k ∧ wordK (k : Int) = l then (k : Int) else kwP l k
theorem kwP_six (l : List UInt8) : kwP l 6 = kwS l := by
  simp [kwP, kwS, eq_comm]
theorem spl_len (b : UInt8) (s : List UInt8) : ∀ pre, ∀ l ∈ splA b pre s, l.length ≤ pre.length + s.length := by
  induction s with
  | nil => intro pre l hl; simp [splA] at hl; subst hl; simp
  | cons x xs ih =>
    intro pre l hl
    rw [splA] at hl
    split at hl
    · rcases List.mem_cons.1 hl with rfl | h
      · simp
      · have := ih [] l h
        simp at this ⊢
        omega
    · have := ih _ l hl
      simp at this ⊢
      omega
theorem ba_getD (bs : ByteArray) (l : List UInt8) (h : bs.data.toList = l) (i : Nat) (hi : i < bs.size) : l.getD i 0 = bs[i] := by
  subst h
  rw [List.getD_eq_getElem?_getD, List.getElem?_eq_getElem (by simpa using hi)]
  rfl
theorem ba_num (x : UInt8) (n : Nat) (h : n < 256) : x = UInt8.ofNat n ↔ ((x.toNat : Int) == (n : Int)) = true := by
  rw [beq_iff_eq]
  constructor
  · intro e; rw [e, UInt8.toNat_ofNat']; omega
  · intro e; apply UInt8.toNat_inj.1; rw [UInt8.toNat_ofNat']; omega
/-- Where the reading stands: the words' row, the event's box, the result's box. -/
structure RdSt (B : Nat) (w0 wx : World) (gr gw ge : Nat) (ws : List (List UInt8)) (k p c b y d : Int) : Prop where
  below : Below B w0 wx
  res : Bx wx gr [.int .i64 0, .int .i64 0, .int .i64 0, .int .i64 0, .int .i64 0, .int .i64 0]
  words : ∀ (j : Nat) (x : List UInt8), ws[j]? = some x → wx.cell? ⟨gw, j, none⟩ = some (strV x)
  box : Bx wx ge [.int .i64 k, .int .i64 p, .int .i64 c, .int .i64 b, .int .i64 y, .int .i64 d]
  o1 : B ≤ gr
  o2 : gr < gw
  o3 : gw < ge
theorem RdSt.on {B : Nat} {w0 wx wy : World} {gr gw ge : Nat} {ws : List (List UInt8)} {k p c b y d : Int} (h : RdSt B w0 wx gr gw ge ws k p c b y d) (hb : Below wx.heap.size wx wy) : RdSt B w0 wy gr gw ge ws k p c b y d :=
  ⟨h.below.trans (hb.mono (by have := h.res.2.2; have := h.o1; omega)), h.res.below hb h.res.2.2, fun j x hx => (hb.cell (p := ⟨gw, j, none⟩) (block_lt_of_cell (h.words j x hx))).trans (h.words j x hx), h.box.below hb h.box.2.2, h.o1, h.o2, h.o3⟩
theorem RdSt.put {B : Nat} {w0 wx : World} {gr gw ge : Nat} {ws : List (List UInt8)} {k p c b y d : Int} (h : RdSt B w0 wx gr gw ge ws k p c b y d) {i : Nat} (hi : i < 6) (u : Value) {k' p' c' b' y' d' : Int}
    (he : ([.int .i64 k, .int .i64 p, .int .i64 c, .int .i64 b, .int .i64 y, .int .i64 d] : List Value).set i u = [.int .i64 k', .int .i64 p', .int .i64 c', .int .i64 b', .int .i64 y', .int .i64 d']) : RdSt B w0 (wx.setCell ⟨ge, i, none⟩ u) gr gw ge ws k' p' c' b' y' d' :=
  ⟨⟨h.below.os, h.below.tape, h.below.output, by simp; exact h.below.size, fun j hj => by rw [Below.heap_setCell _ _ _ _ (by show j ≠ ge; have := h.o1; have := h.o2; have := h.o3; omega)]; exact h.below.block j hj⟩,
    h.res.far (by have := h.o2; have := h.o3; omega) i u, fun j x hx => (far_cell (by have := h.o3; omega) wx i u j).trans (h.words j x hx), he ▸ h.box.set (by simpa using hi) u, h.o1, h.o2, h.o3⟩
theorem RdSt.drew {B : Nat} {w0 wx : World} {gr gw ge : Nat} {ws : List (List UInt8)} {k p c b y d : Int} (h : RdSt B w0 wx gr gw ge ws k p c b y d) : RdSt B w0 wx.drew gr gw ge ws k p c b y d :=
  ⟨h.below.drew, h.res, h.words, h.box, h.o1, h.o2, h.o3⟩
theorem RdSt.size {B : Nat} {w0 wx : World} {gr gw ge : Nat} {ws : List (List UInt8)} {k p c b y d : Int} (h : RdSt B w0 wx gr gw ge ws k p c b y d) : ge < wx.heap.size := h.box.2.2
/-- What ReadEvent answers. -/
def RdAns (s : List UInt8) (w : World) (e : Ending) (w' : World) : Prop := (∃ v, e = .returned v ∧ RdRes s v) ∧ Below w.heap.size w w'

end Go.Proofs.YtgkapjjolhnliaaGreatDoor

/-
  The program's ReadDecimal.
-/
namespace Go.Proofs.YtgkapjjolhnliaaGreatDoor
set_option linter.unusedVariables false
set_option linter.unusedSimpArgs false
open Go.RowKit Go.Shelf

theorem decV_ge (l : List UInt8) : ∀ a, a ≤ decV a l := by
  induction l with
  | nil => intro a; exact Nat.le_refl _
  | cons x xs ih => intro a; rw [decV_cons]; have := ih (10 * a + (x.toNat - 48)); omega
theorem parseU (M : Nat) (hM : 999999999 ≤ M) (l : List UInt8) : ∀ a, (∀ x ∈ l, isDig x = true) → decV a l ≤ 999999999 → Lib.parseUintM M a l = .ok (decV a l) := by
  induction l with
  | nil => intro a _ _; rfl
  | cons x xs ih =>
    intro a hd hv
    have h1 := hd x (by simp)
    unfold isDig at h1
    simp at h1
    rw [decV_cons] at hv ⊢
    have h2 := decV_ge xs (10 * a + (x.toNat - 48))
    rw [Lib.parseUintM, if_pos h1, if_neg (by omega), if_neg (by omega), show a * 10 + (x.toNat - 48) = 10 * a + (x.toNat - 48) by omega]
    exact ih _ (fun y hy => hd y (by simp [hy])) hv
theorem parse_itoa {m : Int} (h0 : -999999999 ≤ m) (h1 : m ≤ 999999999) : Lib.parseIntB 64 (Lib.itoa m) = .ok m := by
  obtain ⟨⟨l1, l2⟩, hd⟩ := itoa_abs h0 h1
  have hv := decV_digits m.natAbs
  rw [absT_itoa] at hd l1
  have hne : Lib.decDigits m.natAbs ≠ [] := by intro e; rw [e] at l1; simp at l1
  have hp := parseU (2 ^ 64 - 1) (by omega) (Lib.decDigits m.natAbs) 0 hd (by rw [hv]; omega)
  rw [hv] at hp
  by_cases h : m < 0
  · have e : Lib.itoa m = 45 :: Lib.decDigits m.natAbs := by unfold Lib.itoa; rw [if_pos h]
    rw [e]
    have hu : Lib.parseUintB 64 (Lib.decDigits m.natAbs) = .ok m.natAbs := by unfold Lib.parseUintB; rw [if_neg hne]; exact hp
    unfold Lib.parseIntB
    dsimp only
    rw [if_pos (Or.inr (show (45 : UInt8).toNat = 45 from rfl)), hu]
    dsimp only
    rw [if_neg (fun q => q.1 rfl), if_neg (by omega), if_pos (show (45 : UInt8).toNat = 45 from rfl)]
    congr 1
    omega
  · have e : Lib.itoa m = Lib.decDigits m.natAbs := by
      unfold Lib.itoa
      rw [if_neg h]
      congr 1
      omega
    rw [e]
    have hu : Lib.parseUintB 64 (Lib.decDigits m.natAbs) = .ok m.natAbs := by unfold Lib.parseUintB; rw [if_neg hne]; exact hp
    cases hl : Lib.decDigits m.natAbs with
    | nil => exact absurd hl hne
    | cons c r =>
      have h9 := hd c (by rw [hl]; simp)
      unfold isDig at h9
      simp at h9
      rw [hl] at hu
      unfold Lib.parseIntB
      dsimp only
      rw [if_neg (by omega), hu]
      dsimp only
      rw [if_neg (by omega), if_neg (by omega), if_neg (by omega)]
      congr 1
      omega
theorem numR_parse {l : List UInt8} (h : ∀ v, Lib.parseIntB 64 l = .ok v → ¬ (-999999999 ≤ v ∧ v ≤ 999999999)) : NumR l 0 := numR_zero fun m a b c => by
  subst c
  exact h m (parse_itoa a b) ⟨a, b⟩
theorem numR_yes {l : List UInt8} {v : Int} (h0 : -999999999 ≤ v) (h1 : v ≤ 999999999) (h2 : Lib.itoa v = l) : NumR l v := ⟨h0, h1, fun m _ _ c => itoa_inj (by rw [h2, c])⟩
theorem numR_differ {l : List UInt8} {v : Int} (h : Lib.parseIntB 64 l = .ok v) (h2 : Lib.itoa v ≠ l) : NumR l 0 := numR_zero fun m a b c => by
  subst c
  rw [parse_itoa a b] at h
  injection h with h
  exact h2 (by rw [h])
shelf_lay LaysC.n174 Nm 174 at Tryz as parseLay
shelf_lay LaysM.n146 Nm 146 at Tryz as splitLay
/-- A cell of the library's that holds an error. -/
def ErrC (B g : Nat) (w : World) : Prop := g < B ∧ ∃ ev, w.cell? ⟨g, 0, none⟩ = some ev ∧ (ev = .nilIface ∨ ∃ te pe, ev = .iface te pe)
/-- What the library's texts ask of the world below block B. -/
structure LibW (B : Nat) (w : World) : Prop where
  tab : TabW B w
  syn : ErrC B (parseLay_ren.g 15) w
  rng : ErrC B (parseLay_ren.g 16) w
  mx : splitLay_ren.g 1 < B ∧ ∃ m, w.cell? ⟨splitLay_ren.g 1, 0, none⟩ = some (.int .i64 m)
theorem ErrC.on {B g : Nat} {w w' : World} (h : ErrC B g w) (hb : Below B w w') : ErrC B g w' := by
  obtain ⟨h1, ev, h2, h3⟩ := h
  exact ⟨h1, ev, (hb.cell (p := ⟨g, 0, none⟩) h1).trans h2, h3⟩
theorem LibW.on {B : Nat} {w w' : World} (h : LibW B w) (hb : Below B w w') : LibW B w' :=
  ⟨h.tab.on hb, h.syn.on hb, h.rng.on hb, by
    obtain ⟨h1, m, h2⟩ := h.mx
    exact ⟨h1, m, (hb.cell (p := ⟨splitLay_ren.g 1, 0, none⟩) h1).trans h2⟩⟩
set_option maxHeartbeats 4000000 in
set_option maxRecDepth 100000 in
theorem ReadDecimal_any (s : ByteArray) (hs : s.size ≤ 1048576) (B : Nat) (w : World) (hB : B ≤ w.heap.size) (hL : LibW B w) : Calls Tryz.prog 17 #[.string s] w (NumC s.data.toList w) := by
  rcases hp : Lib.parseIntB 64 s.data.toList with v | _ | _
  rotate_left
  · obtain ⟨-, ev, h2, h3⟩ := hL.syn
    have hc := Any.strconv_ParseInt_10_at64_syntax parseLay s (by omega) hp ev w h2 h3
    have HN := Lib.hid (numR_parse (l := s.data.toList) (fun v hv => by rw [hp] at hv; cases hv))
    clear hL hp h2 h3
    go_enter Tryz.func17, Tryz.ntmps17
    go_wp2_with (go_at_call 39; refine hc.mono ?_; rintro e w' ⟨N, rfl, -, -, hb⟩)
    go_ret2
    exact ⟨_, _, rfl, HN.out, hb⟩
  · obtain ⟨-, ev, h2, h3⟩ := hL.rng
    have hc := Any.strconv_ParseInt_10_at64_range parseLay s (by omega) hp ev w h2 h3
    have HN := Lib.hid (numR_parse (l := s.data.toList) (fun v hv => by rw [hp] at hv; cases hv))
    clear hL hp h2 h3
    go_enter Tryz.func17, Tryz.ntmps17
    go_wp2_with (go_at_call 39; refine hc.mono ?_; rintro e w' ⟨N, rfl, -, -, hb⟩)
    go_ret2
    exact ⟨_, _, rfl, HN.out, hb⟩
  · have hc := Any.strconv_ParseInt_10_at64_ok parseLay s (by omega) v hp w
    have hBW : ∀ w' : World, (w' = w ∨ ∃ t, w' = Lib.bytesWorld w (parseLay_ren.t 5) t) → Below w.heap.size w w' := by
      rintro w' (rfl | ⟨t, rfl⟩)
      · exact Below.refl _ _
      · exact Lib.bytesWorld_below _ _ _
    have HBW := Lib.hid hBW
    clear hBW
    by_cases hv : -999999999 ≤ v ∧ v ≤ 999999999
    · obtain ⟨v0, v1⟩ := hv
      have HLL := Lib.hid hL.tab
      have hD := Lib.hid (fun (W : World) (hT : TabW B W) => Decimal_any v (by omega) (by omega) B W hT)
      have HP := Lib.hid hp
      clear hL hp
      by_cases hq : Lib.itoa v = s.data.toList
      · have HN := Lib.hid (numR_yes v0 v1 hq)
        have hqe : (Lib.itoa v == s.toList) = true := by rw [beq_iff_eq, Lib.toList_data]; exact hq
        clear hq
        go_enter Tryz.func17, Tryz.ntmps17
        go_wp2_with (first
          | (go_at_call 39; refine hc.mono ?_; rintro e w' ⟨rfl, hw'⟩; have HB1 := Lib.hid (HBW.out w' hw'); clear hw')
          | (go_at_call 40; refine (hD.out _ (HLL.out.on (HB1.out.mono hB))).mono ?_; rintro e w2 ⟨rfl, hb2⟩; unfold strV))
        go_ret2
        exact ⟨_, _, rfl, HN.out, HB1.out.trans (hb2.mono HB1.out.size)⟩
      · have HN := Lib.hid (numR_differ HP.out hq)
        have hqe : (Lib.itoa v == s.toList) = false := by rw [beq_eq_false_iff_ne, Lib.toList_data]; exact hq
        clear hq
        go_enter Tryz.func17, Tryz.ntmps17
        go_wp2_with (first
          | (go_at_call 39; refine hc.mono ?_; rintro e w' ⟨rfl, hw'⟩; have HB1 := Lib.hid (HBW.out w' hw'); clear hw')
          | (go_at_call 40; refine (hD.out _ (HLL.out.on (HB1.out.mono hB))).mono ?_; rintro e w2 ⟨rfl, hb2⟩; unfold strV))
        go_ret2
        exact ⟨_, _, rfl, HN.out, HB1.out.trans (hb2.mono HB1.out.size)⟩
    · have HN := Lib.hid (numR_parse (l := s.data.toList) (fun u hu => by rw [hp] at hu; injection hu with hu; subst hu; exact hv))
      clear hL hp
      by_cases h9 : 999999999 < v
      · clear hv
        go_enter Tryz.func17, Tryz.ntmps17
        go_wp2_with (go_at_call 39; refine hc.mono ?_; rintro e w' ⟨rfl, hw'⟩; have HB1 := Lib.hid (HBW.out w' hw'); clear hw')
        go_ret2
        exact ⟨_, _, rfl, HN.out, HB1.out⟩
      · have h8 : v < -999999999 := by omega
        clear hv
        go_enter Tryz.func17, Tryz.ntmps17
        go_wp2_with (go_at_call 39; refine hc.mono ?_; rintro e w' ⟨rfl, hw'⟩; have HB1 := Lib.hid (HBW.out w' hw'); clear hw')
        go_ret2
        exact ⟨_, _, rfl, HN.out, HB1.out⟩

end Go.Proofs.YtgkapjjolhnliaaGreatDoor

/-
  The program's words: strings.Split and the words that are not empty (plain).
-/
namespace Go.Proofs.YtgkapjjolhnliaaGreatDoor
set_option linter.unusedVariables false
set_option linter.unusedSimpArgs false

def consH (x : List UInt8) : List (List UInt8) → List (List UInt8)
  | [] => []
  | h :: t => (x ++ h) :: t
theorem consH_two (x y : List UInt8) (l : List (List UInt8)) : consH x (consH y l) = consH (x ++ y) l := by cases l <;> simp [consH]
theorem splA_pre (c : UInt8) (l : List UInt8) : ∀ pre, splA c pre l = consH pre (splA c [] l) := by
  induction l with
  | nil => intro pre; simp [splA, consH]
  | cons x xs ih =>
    intro pre
    rw [splA, splA]
    split
    · simp [consH]
    · rw [ih (pre ++ [x]), ih ([] ++ [x]), consH_two]
      simp
theorem splitK_spl (c : UInt8) (l : List UInt8) : Lib.splitK [c] 0 (Lib.count l [c]) l = splA c [] l := by
  induction l with
  | nil => rw [Lib.count_miss (by simp [Lib.index])]; rfl
  | cons b l ih =>
    by_cases h : b = c
    · subst h
      have hix : Lib.index (b :: l) [b] = 0 := by rw [Lib.index]; simp [List.isPrefixOf]
      rw [Lib.count_cons_eq, Nat.add_comm, Lib.splitK, hix, splA, if_pos rfl, ← ih]
      simp
    · have hp : ([c] : List UInt8).isPrefixOf (b :: l) = false := by simp [List.isPrefixOf, Ne.symm h]
      have hix : Lib.index (b :: l) [c] = if Lib.index l [c] == -1 then -1 else Lib.index l [c] + 1 := by rw [Lib.index, hp]; simp
      rw [Lib.count_cons_ne b c l h, splA, if_neg h, splA_pre, ← ih]
      by_cases hm : Lib.index l [c] = -1
      · rw [Lib.count_miss hm]
        simp [Lib.splitK, consH]
      · have hge := Lib.index_ge l [c]
        obtain ⟨j, hj⟩ : ∃ j : Nat, Lib.index l [c] = j := ⟨(Lib.index l [c]).toNat, by omega⟩
        have hc : ∃ k, Lib.count l [c] = k + 1 := by
          rw [Lib.count_hit (by simp) hj]
          exact ⟨_, Nat.add_comm _ _⟩
        obtain ⟨k, hk⟩ := hc
        have hix2 : Lib.index (b :: l) [c] = (j : Int) + 1 := by rw [hix, if_neg (by simpa using hm), hj]
        rw [hk, Lib.splitK, Lib.splitK, hix2, hj, if_neg (by rw [beq_iff_eq]; omega), if_neg (by rw [beq_iff_eq]; omega)]
        have e1 : ((j : Int) + 1).toNat = j + 1 := by omega
        simp [consH, e1]
theorem splitB_spl (s : ByteArray) : (Lib.splitB ⟨#[32]⟩ 0 (Lib.countB s ⟨#[32]⟩) s).map (·.data.toList) = splA 32 [] s.data.toList := by
  rw [Lib.splitB_data]
  exact splitK_spl 32 s.data.toList

end Go.Proofs.YtgkapjjolhnliaaGreatDoor

/-
  The program's SplitWords: strings.Split and slices.DeleteFunc.
-/
namespace Go.Proofs.YtgkapjjolhnliaaGreatDoor
set_option linter.unusedVariables false
set_option linter.unusedSimpArgs false
open Go.RowKit Go.Shelf

shelf_lay_g SlLaysH.n10 Slgf 10 at Tryz 36 as delLay
shelf_lay_g SlLaysN.n30 Slgn 30 at Tryz 15 as idxLay
theorem strV_back (s : ByteArray) : strV s.data.toList = .string s := rfl
theorem split_cells (s : ByteArray) : (Lib.splitB ⟨#[32]⟩ 0 (Lib.countB s ⟨#[32]⟩) s).map Value.string = (splA 32 [] s.data.toList).map strV := by
  rw [← splitB_spl, List.map_map]
  rfl
theorem split_len (s : ByteArray) : Lib.countB s ⟨#[32]⟩ + 1 = (splA 32 [] s.data.toList).length := by
  rw [← splitB_spl, List.length_map, Lib.splitB_all _ (by decide) 0 _ s rfl]
attribute [local go_sem] strV
set_option maxHeartbeats 1000000 in
theorem isEmpty_any (x : List UInt8) (W : World) : FnGives Tryz.prog 38 #[] #[strV x] (.bool x.isEmpty) W := by
  show Calls Tryz.prog 38 #[.string ⟨x.toArray⟩] W _
  go_enter Tryz.func38, Tryz.ntmps38
  go_wp2
  go_ret
  exact ⟨by simp, 0, rfl⟩
/-- What SplitWords answers. -/
def WordsC (ws : List (List UInt8)) (w : World) (e : Ending) (w' : World) : Prop :=
  ∃ g cap, e = .returned (.slice (some ⟨g, 0, none⟩) ws.length cap) ∧ w.heap.size ≤ g ∧ ws.length ≤ cap ∧ cap ≤ 9223372036854775807 ∧ (∀ (j : Nat) (x : List UInt8), ws[j]? = some x → w'.cell? ⟨g, j, none⟩ = some (strV x)) ∧ Below w.heap.size w w'
set_option maxHeartbeats 4000000 in
set_option maxRecDepth 100000 in
theorem SplitWords_any (s : ByteArray) (hs : s.size ≤ 1048576) (B : Nat) (w : World) (hL : LibW B w) : Calls Tryz.prog 14 #[.string s] w (WordsC (fW s.data.toList) w) := by
  obtain ⟨-, m, hm⟩ := hL.mx
  have hc := Any.strings_Split { splitLay with } splitLay.i9 s ⟨#[32]⟩ m w (by omega) hm (by decide)
  rw [split_cells, split_len] at hc
  have hz : (splA 32 [] s.data.toList).length ≤ 1048577 := by
    have := Lib.countB_le ⟨#[32]⟩ (by decide) s.size s (Nat.le_refl _)
    rw [← split_len]
    omega
  have hf : fW s.data.toList = (splA 32 [] s.data.toList).filter (fun l => !l.isEmpty) := rfl
  generalize hW : splA 32 [] s.data.toList = W at *
  have hown : (w.alloc (.cells (W.map strV).toArray 9)).ownsRow w.heap.size 9 1 (.slice (some ⟨w.heap.size, 0, none⟩) W.length W.length) W.length (W.map strV) :=
    World.ownsRow_lit w (W.map strV).toArray W.length (Nat.le_refl _) (by unfold maxLen; omega) (by simp)
  obtain ⟨g, cap, e9, -, hg, hn, hcap, -, hH⟩ := Lib.holds_of_ownsRow hown (by simp)
  injection e9 with e1 _ e3
  injection e1 with e1
  injection e1 with e1
  subst e1 e3
  have eg : ∀ args w, (callFunc 38 args).run Tryz.prog w = .ok (.enter 38 args) w := enters_of Tryz.func38 (by kernel_rfl) rfl
  have hd := AnyE.slices_DeleteFunc delLay strV (fun _ => rfl) List.isEmpty 38 #[] eg [] (fun w => splitLay.v9 w) w.heap.size 0 W.length W.toArray (w.alloc (.cells (W.map strV).toArray 9))
    (fun W' x _ => isEmpty_any x W') (fun n os dk x _ => isEmpty_any x _) hH (by simp; omega) (by simp)
  rw [List.size_toArray, List.toList_toArray, ← hf] at hd
  have hk : (fW s.data.toList).length ≤ W.length := by rw [hf]; exact List.length_filter_le _ _
  have HO := Lib.hid hown
  generalize fW s.data.toList = F at *
  have HB : Hid (Below w.heap.size w (w.alloc (.cells (W.map strV).toArray 9))) := (Below.refl _ _).alloc (Nat.le_refl _) _
  clear hown hH hm hf hW
  go_enter Tryz.func14, Tryz.ntmps14
  go_wp2_with (first
    | (go_at_call 37; refine hc.mono ?_; rintro e w1 ⟨rfl, rfl⟩)
    | (go_at_call 36; refine hd.mono ?_; rintro e w2 ⟨rfl, q, rfl⟩))
  go_ret
  have hO2 := Lib.ownsRow_putRow (q := q) (ys := F ++ List.replicate (W.length - F.length) []) (k := F.length) HO.out (by simp; omega) hk
  rw [List.take_left' rfl] at hO2
  refine ⟨_, _, rfl, Nat.le_refl _, hk, by omega, fun j x hx => ?_, Lib.below_putRow HB.out (Nat.le_refl _)⟩
  have h9 := hO2.cells (g := w.heap.size) rfl j (strV x) (by simp [hx])
  have e : (⟨w.heap.size, 0, none⟩ : Addr).add j = ⟨w.heap.size, j, none⟩ := by unfold Addr.add; split <;> simp_all
  rw [e] at h9
  exact h9

end Go.Proofs.YtgkapjjolhnliaaGreatDoor

/-
  The program's readYarn.
-/
namespace Go.Proofs.YtgkapjjolhnliaaGreatDoor
set_option linter.unusedVariables false
set_option linter.unusedSimpArgs false
open Go.RowKit Go.Shelf

/-- What readYarn leaves. -/
def YarnC (B : Nat) (w0 : World) (gr gw ge : Nat) (ws : List (List UInt8)) (k p c : Int) (xl : List UInt8) (e : Ending) (w' : World) : Prop :=
  e = .returned (.tuple #[]) ∧ ∃ b y d, RdSt B w0 w' gr gw ge ws k p c b y d ∧ ((3 ≤ xl.length ∧ YarnR xl ⟨k, p, c, b, y, d⟩) ∨ (¬ 3 ≤ xl.length ∧ Bare ⟨k, p, c, b, y, d⟩))
set_option maxHeartbeats 8000000 in
set_option maxRecDepth 100000 in
theorem readYarn_any (xl : List UInt8) (hx : xl.length ≤ 1048576) (B0 : Nat) (w0 wq : World) (gr gw ge : Nat) (ws : List (List UInt8)) (k p c : Int) (hB : B0 ≤ w0.heap.size) (hL : LibW B0 w0) (h : RdSt w0.heap.size w0 wq gr gw ge ws k p c 0 0 0) :
    Calls Tryz.prog 18 #[.pointer (some ⟨ge, 0, none⟩), strV xl] wq (YarnC w0.heap.size w0 gr gw ge ws k p c xl) := by
  have HR := Lib.hid h
  have HLW := Lib.hid hL
  have HB0 := Lib.hid hB
  obtain ⟨d0, d1, d2, d3, d4, d5⟩ := h.box.six
  have df := h.box.2.1
  obtain ⟨bs, hbs⟩ : ∃ bs : ByteArray, bs = ⟨xl.toArray⟩ := ⟨_, rfl⟩
  have HBL : Hid (bs.data.toList = xl) := by unfold Hid; rw [hbs]
  have HBZ : Hid (bs.size = xl.length) := by unfold Hid; rw [← ba_len, HBL.out]
  rw [show strV xl = .string bs by rw [hbs]; rfl]
  clear hbs hB hL h
  by_cases hlt : bs.size < 3
  · have Hn := Lib.hid (show ¬ 3 ≤ xl.length by rw [← HBZ.out]; omega)
    go_enter Tryz.func18, Tryz.ntmps18
    go_wp2
    go_end0
    exact ⟨rfl, 0, 0, 0, HR.out, .inr ⟨Hn.out, rfl, rfl, rfl⟩⟩
  have Hn := Lib.hid (show 3 ≤ xl.length by rw [← HBZ.out]; omega)
  have HG0 := Lib.hid (ba_getD bs xl HBL.out 0 (by omega))
  have HG1 := Lib.hid (ba_getD bs xl HBL.out 1 (by omega))
  have hN : ∀ (W : World), B0 ≤ W.heap.size → LibW B0 W → Calls Tryz.prog 17 #[.string (bs.extract 2 bs.size)] W (NumC (bs.extract 2 bs.size).data.toList W) := fun W h1 h2 => ReadDecimal_any (bs.extract 2 bs.size) (by have := HBZ.out; simp; omega) B0 W h1 h2
  have HNL := Lib.hid hN
  have HDR : Hid ((bs.extract 2 bs.size).data.toList = xl.drop 2) := by unfold Hid; rw [ba_drop, HBL.out]
  have P3 := Lib.hid (HR.out.put (i := 3) (by omega) (.int .i64 1) (k' := k) (p' := p) (c' := c) (b' := 1) (y' := 0) (d' := 0) rfl)
  clear hN
  obtain ⟨q0, hq0⟩ : ∃ q0 : Bool, (((bs[0]).toNat : Int) == 98) = q0 := ⟨_, rfl⟩
  obtain ⟨q1, hq1⟩ : ∃ q1 : Bool, (((bs[1]).toNat : Int) == 45) = q1 := ⟨_, rfl⟩
  have HB0b : Hid ((xl.getD 0 0 = 98) ↔ q0 = true) := by rw [HG0.out, ← hq0]; exact ba_num _ 98 (by omega)
  have HB1 : Hid ((xl.getD 1 0 = 45) ↔ q1 = true) := by rw [HG1.out, ← hq1]; exact ba_num _ 45 (by omega)
  clear HG0 HG1
  go_enter Tryz.func18, Tryz.ntmps18
  rcases q0 with _ | _ <;> rcases q1 with _ | _
  · have PB := P3
    have PD := Lib.hid (PB.out.put (i := 5) (by omega) (.int .i64 1) (k' := k) (p' := p) (c' := c) (b' := 1) (y' := 0) (d' := 1) rfl)
    clear P3 PB
    go_upto_region 7 with fail
    generalize (wq.setCell ⟨ge, 3, none⟩ (.int .i64 1)).setCell ⟨ge, 5, none⟩ (.int .i64 1) = W5 at *
    have HL5 := Lib.hid (HLW.out.on (PD.out.below.mono HB0.out))
    go_wp2_with (go_at_call 17; refine (HNL.out _ (Nat.le_trans HB0.out (Nat.le_trans PD.out.below.size (Nat.le_refl _))) HL5.out).mono ?_; rintro e w6 ⟨y, oky, rfl, hNum, hb6⟩; have HNY : Hid (NumR (xl.drop 2) y) := HDR.out ▸ hNum; have HS6 := Lib.hid (PD.out.on hb6); have P7 := Lib.hid (HS6.out.put (i := 4) (by omega) (.int .i64 y) (k' := k) (p' := p) (c' := c) (b' := 1) (y' := y) (d' := 1) rfl); clear d0 d1 d2 d3 d4 d5 df hNum hb6; obtain ⟨d0, d1, d2, d3, d4, d5⟩ := HS6.out.box.six; have df := HS6.out.box.2.1)
    go_end0
    exact ⟨rfl, 1, y, 1, P7.out, .inl ⟨Hn.out, by rw [if_neg (fun e => by have := HB0b.out.1 e; cases this)], by rw [if_neg (fun e => by have := HB1.out.1 e; cases this)], HNY.out⟩⟩
  · have PB := P3
    have PD := Lib.hid (PB.out.put (i := 5) (by omega) (.int .i64 1) (k' := k) (p' := p) (c' := c) (b' := 1) (y' := 0) (d' := 1) rfl)
    replace PD := Lib.hid (PD.out.put (i := 5) (by omega) (.int .i64 (-1)) (k' := k) (p' := p) (c' := c) (b' := 1) (y' := 0) (d' := -1) rfl)
    clear P3 PB
    go_upto_region 7 with fail
    generalize ((wq.setCell ⟨ge, 3, none⟩ (.int .i64 1)).setCell ⟨ge, 5, none⟩ (.int .i64 1)).setCell ⟨ge, 5, none⟩ (.int .i64 (-1)) = W5 at *
    have HL5 := Lib.hid (HLW.out.on (PD.out.below.mono HB0.out))
    go_wp2_with (go_at_call 17; refine (HNL.out _ (Nat.le_trans HB0.out (Nat.le_trans PD.out.below.size (Nat.le_refl _))) HL5.out).mono ?_; rintro e w6 ⟨y, oky, rfl, hNum, hb6⟩; have HNY : Hid (NumR (xl.drop 2) y) := HDR.out ▸ hNum; have HS6 := Lib.hid (PD.out.on hb6); have P7 := Lib.hid (HS6.out.put (i := 4) (by omega) (.int .i64 y) (k' := k) (p' := p) (c' := c) (b' := 1) (y' := y) (d' := -1) rfl); clear d0 d1 d2 d3 d4 d5 df hNum hb6; obtain ⟨d0, d1, d2, d3, d4, d5⟩ := HS6.out.box.six; have df := HS6.out.box.2.1)
    go_end0
    exact ⟨rfl, 1, y, -1, P7.out, .inl ⟨Hn.out, by rw [if_neg (fun e => by have := HB0b.out.1 e; cases this)], by rw [if_pos (HB1.out.2 (by first | rfl | trivial))], HNY.out⟩⟩
  · have PB := Lib.hid (P3.out.put (i := 3) (by omega) (.int .i64 2) (k' := k) (p' := p) (c' := c) (b' := 2) (y' := 0) (d' := 0) rfl)
    have PD := Lib.hid (PB.out.put (i := 5) (by omega) (.int .i64 1) (k' := k) (p' := p) (c' := c) (b' := 2) (y' := 0) (d' := 1) rfl)
    clear P3 PB
    go_upto_region 7 with fail
    generalize ((wq.setCell ⟨ge, 3, none⟩ (.int .i64 1)).setCell ⟨ge, 3, none⟩ (.int .i64 2)).setCell ⟨ge, 5, none⟩ (.int .i64 1) = W5 at *
    have HL5 := Lib.hid (HLW.out.on (PD.out.below.mono HB0.out))
    go_wp2_with (go_at_call 17; refine (HNL.out _ (Nat.le_trans HB0.out (Nat.le_trans PD.out.below.size (Nat.le_refl _))) HL5.out).mono ?_; rintro e w6 ⟨y, oky, rfl, hNum, hb6⟩; have HNY : Hid (NumR (xl.drop 2) y) := HDR.out ▸ hNum; have HS6 := Lib.hid (PD.out.on hb6); have P7 := Lib.hid (HS6.out.put (i := 4) (by omega) (.int .i64 y) (k' := k) (p' := p) (c' := c) (b' := 2) (y' := y) (d' := 1) rfl); clear d0 d1 d2 d3 d4 d5 df hNum hb6; obtain ⟨d0, d1, d2, d3, d4, d5⟩ := HS6.out.box.six; have df := HS6.out.box.2.1)
    go_end0
    exact ⟨rfl, 2, y, 1, P7.out, .inl ⟨Hn.out, by rw [if_pos (HB0b.out.2 (by first | rfl | trivial))], by rw [if_neg (fun e => by have := HB1.out.1 e; cases this)], HNY.out⟩⟩
  · have PB := Lib.hid (P3.out.put (i := 3) (by omega) (.int .i64 2) (k' := k) (p' := p) (c' := c) (b' := 2) (y' := 0) (d' := 0) rfl)
    have PD := Lib.hid (PB.out.put (i := 5) (by omega) (.int .i64 1) (k' := k) (p' := p) (c' := c) (b' := 2) (y' := 0) (d' := 1) rfl)
    replace PD := Lib.hid (PD.out.put (i := 5) (by omega) (.int .i64 (-1)) (k' := k) (p' := p) (c' := c) (b' := 2) (y' := 0) (d' := -1) rfl)
    clear P3 PB
    go_upto_region 7 with fail
    generalize (((wq.setCell ⟨ge, 3, none⟩ (.int .i64 1)).setCell ⟨ge, 3, none⟩ (.int .i64 2)).setCell ⟨ge, 5, none⟩ (.int .i64 1)).setCell ⟨ge, 5, none⟩ (.int .i64 (-1)) = W5 at *
    have HL5 := Lib.hid (HLW.out.on (PD.out.below.mono HB0.out))
    go_wp2_with (go_at_call 17; refine (HNL.out _ (Nat.le_trans HB0.out (Nat.le_trans PD.out.below.size (Nat.le_refl _))) HL5.out).mono ?_; rintro e w6 ⟨y, oky, rfl, hNum, hb6⟩; have HNY : Hid (NumR (xl.drop 2) y) := HDR.out ▸ hNum; have HS6 := Lib.hid (PD.out.on hb6); have P7 := Lib.hid (HS6.out.put (i := 4) (by omega) (.int .i64 y) (k' := k) (p' := p) (c' := c) (b' := 2) (y' := y) (d' := -1) rfl); clear d0 d1 d2 d3 d4 d5 df hNum hb6; obtain ⟨d0, d1, d2, d3, d4, d5⟩ := HS6.out.box.six; have df := HS6.out.box.2.1)
    go_end0
    exact ⟨rfl, 2, y, -1, P7.out, .inl ⟨Hn.out, by rw [if_pos (HB0b.out.2 (by first | rfl | trivial))], by rw [if_pos (HB1.out.2 (by first | rfl | trivial))], HNY.out⟩⟩

end Go.Proofs.YtgkapjjolhnliaaGreatDoor
