/-
  Texts joined: CpA, CpB, CpC.
-/
import Derived.Test.YtmcalioldphfeaaPk3
import Derived.Test.YtmcalioldphfeaaMcTo
import Derived.Test.YtmcalioldphfeaaPk4
/-
  Clones of rows, and the program's copyLists: each list in a block of its own.
-/
namespace Go.Proofs.Ytmcalioldphfeaa
set_option linter.unusedVariables false
set_option linter.unusedSimpArgs false
open Go.RowKit

set_option maxHeartbeats 2000000 in
set_option maxRecDepth 100000 in
theorem cloneIO (A : Option Addr) (c n : Nat) (xs : List Value) (w : World) (hr : Reads w w.heap.size 1 A n xs) (hlen : n ≤ 1048576) (hone : ∀ u ∈ xs, u.oneCell' = true) :
    Calls Try.prog 101 #[.slice A n c] w (GivesRow w 2 1 n xs) := by
  obtain ⟨i0, hi, hz0, hz1, hz2⟩ := info_parts info_int
  rcases A with _ | ad
  · have h0 : n = 0 := by
      rcases Nat.eq_zero_or_pos n with h | h
      · exact h
      · obtain ⟨ad, hA, _⟩ := hr.2 h
        cases hA
    subst h0
    have hnil : xs = [] := List.eq_nil_of_length_eq_zero (by rw [hr.1])
    subst hnil
    have hq := fun W => Lib.run_eql_slice_nil (P := Try.prog) W 25 2 none 0 c 0 0 Try.underlying25
    clear hr hone
    go_enter Try.func101, Try.ntmps101
    go_wp2
    go_ret
    exact ⟨_, rfl, World.ownsRow_nil _ _ _ _, Below.refl _ _⟩
  · have hq := fun W => Lib.run_eql_slice_nil (P := Try.prog) W 25 2 (some ad) n c 0 0 Try.underlying25
    have HR := Lib.hid hr
    have HO := Lib.hid hone
    clear hr hone
    go_enter Try.func101, Try.ntmps101
    go_wp2_with (at_builtin; refine wpList_append_any _ rfl (.tmp 5) (.tmp 6) _ rfl w.heap.size 2 i0 _ 1 8 Try.underlying25 hi hz0 hz1 hz2 rfl (by decide) _ 0 [] rfl (World.ownsRow_lit _ _ _ (Nat.le_refl _) (by unfold maxLen; omega) rfl) w.heap.size (some ad) n c xs rfl (HR.out.alloc (Nat.le_refl _) _) HO.out (by unfold maxLen; omega) (by omega) (by simp) ?_; intro v1 w1 hown hg hat)
    go_ret
    refine ⟨v1, rfl, by simpa using hown, ((Below.refl _ _).alloc (Nat.le_refl _) _).grown hg (by simp) (fun k hk => ?_)⟩
    have hk' : some w.heap.size = some k := hk
    injection hk' with hk'
    omega
set_option maxHeartbeats 2000000 in
set_option maxRecDepth 100000 in
theorem cloneCO (A : Option Addr) (c n : Nat) (xs : List Value) (w : World) (hr : Reads w w.heap.size 2 A n xs) (hlen : n ≤ 1048576) (hone : ∀ u ∈ xs, u.oneCell' = true) :
    Calls Try.prog 99 #[.slice A n c] w (GivesRow w 52 2 n xs) := by
  obtain ⟨i0, hi, hz0, hz1, hz2⟩ := info_parts info_car
  rcases A with _ | ad
  · have h0 : n = 0 := by
      rcases Nat.eq_zero_or_pos n with h | h
      · exact h
      · obtain ⟨ad, hA, _⟩ := hr.2 h
        cases hA
    subst h0
    have hnil : xs = [] := List.eq_nil_of_length_eq_zero (by rw [hr.1])
    subst hnil
    have hq := fun W => Lib.run_eql_slice_nil (P := Try.prog) W 29 52 none 0 c 0 0 Try.underlying29
    clear hr hone
    go_enter Try.func99, Try.ntmps99
    go_wp2
    go_ret
    exact ⟨_, rfl, World.ownsRow_nil _ _ _ _, Below.refl _ _⟩
  · have hq := fun W => Lib.run_eql_slice_nil (P := Try.prog) W 29 52 (some ad) n c 0 0 Try.underlying29
    have HR := Lib.hid hr
    have HO := Lib.hid hone
    clear hr hone
    go_enter Try.func99, Try.ntmps99
    go_wp2_with (at_builtin; refine wpList_append_any _ rfl (.tmp 5) (.tmp 6) _ rfl w.heap.size 52 i0 _ 2 16 Try.underlying29 hi hz0 hz1 hz2 rfl (by decide) _ 0 [] rfl (World.ownsRow_lit _ _ _ (Nat.le_refl _) (by unfold maxLen; omega) rfl) w.heap.size (some ad) n c xs rfl (HR.out.alloc (Nat.le_refl _) _) HO.out (by unfold maxLen; omega) (by omega) (by simp) ?_; intro v1 w1 hown hg hat)
    go_ret
    refine ⟨v1, rfl, by simpa using hown, ((Below.refl _ _).alloc (Nat.le_refl _) _).grown hg (by simp) (fun k hk => ?_)⟩
    have hk' : some w.heap.size = some k := hk
    injection hk' with hk'
    omega
set_option maxHeartbeats 2000000 in
set_option maxRecDepth 100000 in
theorem cloneLO (A : Option Addr) (c n : Nat) (xs : List Value) (w : World) (hr : Reads w w.heap.size 6 A n xs) (hlen : n ≤ 1048576) (hone : ∀ u ∈ xs, u.oneCell' = true) :
    Calls Try.prog 100 #[.slice A n c] w (GivesRow w 102 6 n xs) := by
  obtain ⟨i0, hi, hz0, hz1, hz2⟩ := info_parts info_inf
  rcases A with _ | ad
  · have h0 : n = 0 := by
      rcases Nat.eq_zero_or_pos n with h | h
      · exact h
      · obtain ⟨ad, hA, _⟩ := hr.2 h
        cases hA
    subst h0
    have hnil : xs = [] := List.eq_nil_of_length_eq_zero (by rw [hr.1])
    subst hnil
    have hq := fun W => Lib.run_eql_slice_nil (P := Try.prog) W 30 102 none 0 c 0 0 Try.underlying30
    clear hr hone
    go_enter Try.func100, Try.ntmps100
    go_wp2
    go_ret
    exact ⟨_, rfl, World.ownsRow_nil _ _ _ _, Below.refl _ _⟩
  · have hq := fun W => Lib.run_eql_slice_nil (P := Try.prog) W 30 102 (some ad) n c 0 0 Try.underlying30
    have HR := Lib.hid hr
    have HO := Lib.hid hone
    clear hr hone
    go_enter Try.func100, Try.ntmps100
    go_wp2_with (at_builtin; refine wpList_append_any _ rfl (.tmp 5) (.tmp 6) _ rfl w.heap.size 102 i0 _ 6 64 Try.underlying30 hi hz0 hz1 hz2 rfl (by decide) _ 0 [] rfl (World.ownsRow_lit _ _ _ (Nat.le_refl _) (by unfold maxLen; omega) rfl) w.heap.size (some ad) n c xs rfl (HR.out.alloc (Nat.le_refl _) _) HO.out (by unfold maxLen; omega) (by omega) (by simp) ?_; intro v1 w1 hown hg hat)
    go_ret
    refine ⟨v1, rfl, by simpa using hown, ((Below.refl _ _).alloc (Nat.le_refl _) _).grown hg (by simp) (fun k hk => ?_)⟩
    have hk' : some w.heap.size = some k := hk
    injection hk' with hk'
    omega
theorem own_of_rowIs {w : World} {B b t n : Nat} {f : Nat → Value} (h : w.rowIs b t n f) (hB : B ≤ b) (hn : n ≤ maxLen) : w.ownsRow B t 1 (.slice (some ⟨b, 0, none⟩) n n) n ((List.range n).map f) := by
  obtain ⟨cur, h1, h2, h3⟩ := h
  refine ⟨by simp, .inr ⟨b, n, cur, rfl, hB, h1, Nat.le_refl _, hn, by omega, ?_⟩⟩
  rw [List.take_of_length_le (by simp; omega)]
  refine List.ext_getElem? fun i => ?_
  by_cases hi : i < n
  · rw [Array.getElem?_toList, h3 i hi, List.getElem?_map, List.getElem?_range hi]; rfl
  · rw [List.getElem?_eq_none (by simp; omega), List.getElem?_eq_none (by simp; omega)]
/-- Lists that were copied: row 0 holds their headers. -/
structure Lists (w : World) (B : Nat) (v : Value) (l : List (List Int)) (T : Nat → Spot) : Prop where
  sp : SpotsT w B T
  hd : ∃ xs, T 0 = ⟨25, 1, v, l.length, xs⟩ ∧ ∀ k, k < l.length → xs[k]? = some (T (k + 1)).v
  ls : ∀ k x, l[k]? = some x → T (k + 1) = spI (T (k + 1)).v x
def CopyLL (w : World) (l : List (List Int)) (e : Ending) (w' : World) : Prop := ∃ v T, e = .returned v ∧ Lists w' w.heap.size v l T ∧ Below w.heap.size w w'
set_option maxHeartbeats 4000000 in
set_option maxRecDepth 100000 in
theorem copyLists_any (v : Value) (l : List (List Int)) (w : World) (hl : RdLL w w.heap.size v l) (hlen : l.length ≤ 1048576) (hls : ∀ x ∈ l, x.length ≤ 1048576) :
    Calls Try.prog 98 #[v] w (CopyLL w l) := by
  obtain ⟨A, cp, rfl⟩ := RdN.shape hl
  have HL := Lib.hid hl
  have HLS := Lib.hid hls
  generalize hln : l.length = n at *
  have HLN := Lib.hid hln
  clear hl hln hls
  have hmk := fun W => run_make_row' (P := Try.prog) 22 25 (.slice none 0 0) 24 Try.underlying22 info_sl rfl .i64 .i64 n (by omega) (by omega) W
  go_enter Try.func98, Try.ntmps98
  go_wp2
  clear hmk
  go_loopw [10] (fun i wr => ∃ (k : Nat) (T : Nat → Spot) (xs : List Value) (wq : World), wq = wr ∧ k ≤ n ∧ i = .int .i64 k ∧ Hid (SpotsT wq w.heap.size T) ∧ Hid (T 0 = ⟨25, 1, .slice (some ⟨w.heap.size, 0, none⟩) n n, n, xs⟩) ∧ Hid (∀ j, j < k → xs[j]? = some (T (j + 1)).v) ∧
    Hid (∀ j x, j < k → l[j]? = some x → T (j + 1) = spI (T (j + 1)).v x) ∧ Hid (Below w.heap.size w wq)) (fun i _ => n - (intOf i).toNat)
  case atStart =>
    refine ⟨0, fun j => if j = 0 then ⟨25, 1, .slice (some ⟨w.heap.size, 0, none⟩) n n, n, (List.range n).map fun _ => .slice none 0 0⟩ else Spot.none_ 0 0, _, _, rfl, Nat.zero_le _, rfl, fun N => ⟨fun j hj => ?_, fun i j g hi hj hij hg => ?_⟩, if_pos rfl, fun j hj => absurd hj (by omega), fun j x hj => absurd hj (by omega), (Below.refl _ _).alloc (Nat.le_refl _) _⟩
    · by_cases e : j = 0
      · rw [if_pos e]
        exact own_of_rowIs (World.rowIs_made _ _ _ _) (Nat.le_refl _) (by unfold maxLen; omega)
      · rw [if_neg e]
        exact World.ownsRow_nil _ _ _ _
    · by_cases e : j = 0
      · rw [if_neg (by omega)] at hg
        cases hg
      · rw [if_neg e]
        intro h; cases h
  case round =>
    obtain ⟨k, T, xs, wq, hwq, hk, rfl, HT, H0, HX, HS, HB⟩ := hrel
    subst hwq
    by_cases hlt : k < n
    · obtain ⟨b, off, x, s, rfl, hbb, hlk, hc, hs⟩ := (RdLL.below HL.out HB.out).at_ hlt
      have HXL := Lib.hid (HLS.out x (List.mem_of_getElem? hlk))
      obtain ⟨A1, n1, c1, rfl⟩ := RdI.shape' hs
      have hrd := hs.reads
      have hn1 : x.length = n1 := hrd.2
      have HRD := Lib.hid (hrd.1.more HB.out.size)
      have hn1' : n1 ≤ 1048576 := by rw [← hn1]; exact HXL.out
      have HN1 := Lib.hid hn1
      have Hl := Lib.hid hlk
      have hkn : (k : Int) < (n : Int) := by omega
      clear hlk hs hrd hn1
      go_wp2_with fail
      refine (cloneIO A1 c1 n1 (vI x) _ HRD.out hn1' (vI_one x)).mono ?_
      rintro e w1 ⟨v1, rfl, ho, hb1⟩
      have hs1 := HT.out.below hb1
      have hg0 : (T 0).v.ownBlock = some w.heap.size := by rw [H0.out]; rfl
      have hlx : xs.length = n := by have := (HT.out.own 0).1; rw [H0.out] at this; simpa using this
      obtain ⟨c0, f0⟩ := Spot.cell (s := T 0) (hs1.own 0) hg0 (i := k) (x := xs[k]'(by omega)) (by rw [H0.out]; exact List.getElem?_eq_getElem _)
      obtain ⟨A2, c2, rfl, -, -⟩ := (OwC.of_own ho).cells
      have hsp := (HT.out.putNew hb1 (k + 1) (spI (.slice A2 n1 c2) x) (by show w1.ownsRow _ _ _ _ x.length _; rw [HN1.out]; exact ho) HB.out.size)
      have e0 : putS T (k + 1) (spI (.slice A2 n1 c2) x) 0 = T 0 := putS_ne (by omega)
      have hsp2 := hsp.setCell (p := 0) (g := w.heap.size) (i := k) (by rw [e0]; exact hg0) (.slice A2 n1 c2) (by rw [e0, H0.out]; show k < n * 1; omega)
      rw [e0] at hsp2
      have HSP := Lib.hid hsp2
      have HB1 := Lib.hid ((HB.out.trans (hb1.mono HB.out.size)).setCell (p := ⟨w.heap.size, k, none⟩) (Nat.le_refl _) (.slice A2 n1 c2))
      have HLX := Lib.hid hlx
      clear hsp hsp2 hs1 ho hb1 hg0 e0
      go_wp2
      refine ⟨⟨k + 1, _, xs.set k (.slice A2 n1 c2), _, rfl, by omega, by go_num, HSP.out, ?_, fun j hj => ?_, fun j y hj hy => ?_, HB1.out⟩, by simp [intOf]; omega⟩
      · show putS _ 0 _ 0 = _
        rw [putS_same, H0.out]
      · rw [putS_ne (show j + 1 ≠ 0 by omega)]
        by_cases e : j = k
        · subst e
          rw [putS_same, List.getElem?_set_self (by have := HLX.out; omega)]
        · rw [putS_ne (show j + 1 ≠ k + 1 by omega), List.getElem?_set_ne (fun e' => e e'.symm)]
          exact HX.out j (by omega)
      · rw [putS_ne (show j + 1 ≠ 0 by omega)]
        by_cases e : j = k
        · subst e
          rw [putS_same]
          have hxy : x = y := by have := Hl.out; rw [this] at hy; injection hy
          rw [hxy]
        · rw [putS_ne (show j + 1 ≠ k + 1 by omega)]
          exact HS.out j y (by omega) hy
    · have hkn : k = n := by omega
      subst hkn
      clear hlt hk
      go_wp2
      go_ret
      refine ⟨_, T, rfl, ⟨HT.out, ⟨xs, by rw [HLN.out]; exact H0.out, fun j hj => HX.out j (by have := HLN.out; omega)⟩, fun j x hx => HS.out j x (by have := (List.getElem?_eq_some_iff.1 hx).1; have := HLN.out; omega) hx⟩, HB.out⟩

end Go.Proofs.Ytmcalioldphfeaa

/-
  A machine put together of rows that stand one behind the other; the program's copyMachine.
-/
namespace Go.Proofs.Ytmcalioldphfeaa
set_option linter.unusedVariables false
set_option linter.unusedSimpArgs false
open Go.RowKit

/-- Which family a row belongs to, and its number there. -/
def fam (j : Nat) : Nat := if j < 6 then j else if j % 3 = 0 then 1 else if j % 3 = 1 then 2 else 4
def inx (j : Nat) : Nat := if j < 6 then 0 else (j - 6) / 3 + 1
theorem fam_cases (i : Nat) : (i < 6 ∧ fam i = i ∧ inx i = 0) ∨ (6 ≤ i ∧ inx i = (i - 6) / 3 + 1 ∧ (i % 3 = 0 ∧ fam i = 1 ∨ i % 3 = 1 ∧ fam i = 2 ∨ i % 3 = 2 ∧ fam i = 4)) := by
  unfold fam inx
  by_cases h : i < 6
  · exact .inl ⟨h, if_pos h, if_pos h⟩
  · refine .inr ⟨by omega, if_neg h, ?_⟩
    rw [if_neg h]
    by_cases h0 : i % 3 = 0
    · exact .inl ⟨h0, if_pos h0⟩
    · rw [if_neg h0]
      by_cases h1 : i % 3 = 1
      · exact .inr (.inl ⟨h1, if_pos h1⟩)
      · exact .inr (.inr ⟨by omega, if_neg h1⟩)
theorem fam_inj {i j : Nat} (h : fam i = fam j) (h' : inx i = inx j) : i = j := by
  rcases fam_cases i with ⟨a1, a2, a3⟩ | ⟨a1, a2, a3⟩ <;> rcases fam_cases j with ⟨b1, b2, b3⟩ | ⟨b1, b2, b3⟩
  · omega
  · omega
  · omega
  · rcases a3 with ⟨a3, a4⟩ | ⟨a3, a4⟩ | ⟨a3, a4⟩ <;> rcases b3 with ⟨b3, b4⟩ | ⟨b3, b4⟩ | ⟨b3, b4⟩ <;> omega
theorem fam_lt (i : Nat) : fam i < 6 := by
  rcases fam_cases i with ⟨a1, a2, a3⟩ | ⟨a1, a2, ⟨a3, a4⟩ | ⟨a3, a4⟩ | ⟨a3, a4⟩⟩ <;> omega
theorem fam_iF (k : Nat) : fam (iF k) = 1 ∧ inx (iF k) = k + 1 := by
  have h : iF k = 3 * k + 6 := rfl
  rcases fam_cases (iF k) with ⟨a1, a2, a3⟩ | ⟨a1, a2, ⟨a3, a4⟩ | ⟨a3, a4⟩ | ⟨a3, a4⟩⟩ <;> constructor <;> omega
theorem fam_iB (k : Nat) : fam (iB k) = 2 ∧ inx (iB k) = k + 1 := by
  have h : iB k = 3 * k + 7 := rfl
  rcases fam_cases (iB k) with ⟨a1, a2, a3⟩ | ⟨a1, a2, ⟨a3, a4⟩ | ⟨a3, a4⟩ | ⟨a3, a4⟩⟩ <;> constructor <;> omega
theorem fam_iP (k : Nat) : fam (iP k) = 4 ∧ inx (iP k) = k + 1 := by
  have h : iP k = 3 * k + 8 := rfl
  rcases fam_cases (iP k) with ⟨a1, a2, a3⟩ | ⟨a1, a2, ⟨a3, a4⟩ | ⟨a3, a4⟩ | ⟨a3, a4⟩⟩ <;> constructor <;> omega
/-- Families of rows, each in blocks of its own window. -/
structure Fams (w : World) (a : Nat → Nat) (T : Nat → Nat → Spot) : Prop where
  sp : ∀ c, c < 6 → SpotsT w (a c) (T c)
  up : ∀ c j g, c < 6 → (T c j).v.ownBlock = some g → g < a (c + 1)
  le : ∀ c, c < 6 → a c ≤ a (c + 1)
theorem Fams.mono {w : World} {a : Nat → Nat} {T : Nat → Nat → Spot} (h : Fams w a T) : ∀ (d c : Nat), c ≤ d → d ≤ 6 → a c ≤ a d
  | 0, c, h1, _ => by obtain rfl : c = 0 := by omega
                      exact Nat.le_refl _
  | d + 1, c, h1, h2 => by
    by_cases e : c = d + 1
    · rw [e]; exact Nat.le_refl _
    · exact Nat.le_trans (h.mono d c (by omega) (by omega)) (h.le d (by omega))
theorem Fams.join {w : World} {a : Nat → Nat} {T : Nat → Nat → Spot} (h : Fams w a T) : SpotsT w (a 0) (fun j => T (fam j) (inx j)) := fun N =>
  ⟨fun j _ => own_base ((h.sp _ (fam_lt j)).own (inx j)) (h.mono _ _ (Nat.zero_le _) (by have := fam_lt j; omega)), fun i j g _ _ hij hg hg' => by
    by_cases e : fam i = fam j
    · have hg2 : (T (fam i) (inx j)).v.ownBlock = some g := by rw [e]; exact hg'
      exact (h.sp _ (fam_lt i)).dis (fun e' => hij (fam_inj e e')) hg hg2
    · have h1 := ((h.sp _ (fam_lt i)).lt hg).1
      have h2 := ((h.sp _ (fam_lt j)).lt hg').1
      have h3 := h.up _ _ _ (fam_lt i) hg
      have h4 := h.up _ _ _ (fam_lt j) hg'
      have hi := fam_lt i
      have hj := fam_lt j
      by_cases e2 : fam i < fam j
      · have := h.mono (fam j) (fam i + 1) (by omega) (by omega)
        omega
      · have := h.mono (fam i) (fam j + 1) (by omega) (by omega)
        omega⟩
def one1 (s : Spot) : Nat → Spot := fun j => if j = 0 then s else Spot.none_ 0 0
theorem one1_sp {w : World} {B : Nat} {s : Spot} (h : s.owned w B) : SpotsT w B (one1 s) := fun N => ⟨fun j _ => by
    unfold one1
    by_cases e : j = 0
    · rw [if_pos e]; exact h
    · rw [if_neg e]; exact World.ownsRow_nil _ _ _ _, fun i j g _ _ hij hg => by
    unfold one1 at hg ⊢
    by_cases e : i = 0
    · rw [if_neg (show ¬ j = 0 by omega)]
      intro h; cases h
    · rw [if_neg e] at hg
      cases hg⟩
theorem one1_up {s : Spot} {j g b : Nat} (hs : ∀ g, s.v.ownBlock = some g → g < b) (h : (one1 s j).v.ownBlock = some g) : g < b := by
  unfold one1 at h
  by_cases e : j = 0
  · rw [if_pos e] at h; exact hs g h
  · rw [if_neg e] at h; cases h
/-- Loops whose parents' rows were copied. -/
structure Pars (w : World) (B : Nat) (v : Value) (l : List Inf) (T : Nat → Spot) : Prop where
  sp : SpotsT w B T
  hd : ∃ xs, T 0 = ⟨102, 6, v, l.length, xs⟩ ∧ ∀ k x, l[k]? = some x → ∀ j u, [Value.int .i64 x.k, .int .i64 x.y, .int .i64 x.b, .int .i64 x.p, .int .i64 x.d, (T (k + 1)).v][j]? = some u → xs[k * 6 + j]? = some u
  ls : ∀ k x, l[k]? = some x → T (k + 1) = spI (T (k + 1)).v x.ps
theorem MSt.join {w : World} {g a0 a1 a2 a3 a4 a5 a6 : Nat} {m : Mc} {vF vB vC vL vD : Value} {TF TB TP : Nat → Spot}
    (hbox : w.ownsRow a0 32 7 (.slice (some ⟨g, 0, none⟩) 1 1) 1 [.int .i64 m.wd, .int .i64 m.rk, vF, vB, vC, vL, vD]) (hg : g < a1)
    (hF : Lists w a1 vF m.fr TF) (uF : ∀ j g, (TF j).v.ownBlock = some g → g < a2) (hB : Lists w a2 vB m.bk TB) (uB : ∀ j g, (TB j).v.ownBlock = some g → g < a3)
    (hC : w.ownsRow a3 52 2 vC m.cs.length (vS Car.cells m.cs)) (uC : ∀ g, vC.ownBlock = some g → g < a4)
    (hP : Pars w a4 vL m.ls TP) (uP : ∀ j g, (TP j).v.ownBlock = some g → g < a5) (hD : w.ownsRow a5 2 1 vD m.dr.length (vI m.dr)) (uD : ∀ g, vD.ownBlock = some g → g < a6)
    (l0 : a0 ≤ a1) (l1 : a1 ≤ a2) (l2 : a2 ≤ a3) (l3 : a3 ≤ a4) (l4 : a4 ≤ a5) (l5 : a5 ≤ a6) :
    ∃ S, MSt w a0 g m S ∧ (S 1).v = vF ∧ (S 2).v = vB ∧ (S 3).v = vC ∧ (S 4).v = vL ∧ (S 5).v = vD := by
  obtain ⟨xF, eF, hxF⟩ := hF.hd
  obtain ⟨xB, eB, hxB⟩ := hB.hd
  obtain ⟨xP, eP, hxP⟩ := hP.hd
  have hJ : Fams w (fun c => if c = 0 then a0 else if c = 1 then a1 else if c = 2 then a2 else if c = 3 then a3 else if c = 4 then a4 else if c = 5 then a5 else a6)
      (fun c => if c = 0 then one1 ⟨32, 7, .slice (some ⟨g, 0, none⟩) 1 1, 1, [.int .i64 m.wd, .int .i64 m.rk, vF, vB, vC, vL, vD]⟩ else if c = 1 then TF else if c = 2 then TB else if c = 3 then one1 ⟨52, 2, vC, m.cs.length, vS Car.cells m.cs⟩ else if c = 4 then TP else one1 (spI vD m.dr)) := by
    refine ⟨fun c hc => ?_, fun c j g' hc hg' => ?_, fun c hc => ?_⟩
    · obtain rfl | rfl | rfl | rfl | rfl | rfl : c = 0 ∨ c = 1 ∨ c = 2 ∨ c = 3 ∨ c = 4 ∨ c = 5 := by omega
      · exact one1_sp hbox
      · exact hF.sp
      · exact hB.sp
      · exact one1_sp hC
      · exact hP.sp
      · exact one1_sp hD
    · obtain rfl | rfl | rfl | rfl | rfl | rfl : c = 0 ∨ c = 1 ∨ c = 2 ∨ c = 3 ∨ c = 4 ∨ c = 5 := by omega
      · exact one1_up (b := a1) (fun q hq => by have hq' : g = q := by injection hq
                                                omega) hg'
      · exact uF j g' hg'
      · exact uB j g' hg'
      · exact one1_up (b := a4) uC hg'
      · exact uP j g' hg'
      · exact one1_up (b := a6) uD hg'
    · obtain rfl | rfl | rfl | rfl | rfl | rfl : c = 0 ∨ c = 1 ∨ c = 2 ∨ c = 3 ∨ c = 4 ∨ c = 5 := by omega
      all_goals simp; omega
  generalize hTT : (fun c => if c = 0 then one1 ⟨32, 7, .slice (some ⟨g, 0, none⟩) 1 1, 1, [.int .i64 m.wd, .int .i64 m.rk, vF, vB, vC, vL, vD]⟩ else if c = 1 then TF else if c = 2 then TB else if c = 3 then one1 ⟨52, 2, vC, m.cs.length, vS Car.cells m.cs⟩ else if c = 4 then TP else one1 (spI vD m.dr)) = TT at hJ
  have hsp : SpotsT w a0 (fun j => TT (fam j) (inx j)) := hJ.join
  have t0 : TT 0 = one1 ⟨32, 7, .slice (some ⟨g, 0, none⟩) 1 1, 1, [.int .i64 m.wd, .int .i64 m.rk, vF, vB, vC, vL, vD]⟩ := by rw [← hTT]; rfl
  have t1 : TT 1 = TF := by rw [← hTT]; rfl
  have t2 : TT 2 = TB := by rw [← hTT]; rfl
  have t3 : TT 3 = one1 ⟨52, 2, vC, m.cs.length, vS Car.cells m.cs⟩ := by rw [← hTT]; rfl
  have t4 : TT 4 = TP := by rw [← hTT]; rfl
  have t5 : TT 5 = one1 (spI vD m.dr) := by rw [← hTT]; rfl
  have s1 : (TT (fam 1) (inx 1)) = TF 0 := by show TT 1 0 = _; rw [t1]
  have s2 : (TT (fam 2) (inx 2)) = TB 0 := by show TT 2 0 = _; rw [t2]
  have s3 : (TT (fam 3) (inx 3)) = ⟨52, 2, vC, m.cs.length, vS Car.cells m.cs⟩ := by show TT 3 0 = _; rw [t3]; rfl
  have s4 : (TT (fam 4) (inx 4)) = TP 0 := by show TT 4 0 = _; rw [t4]
  have s5 : (TT (fam 5) (inx 5)) = spI vD m.dr := by show TT 5 0 = _; rw [t5]; rfl
  have sF : ∀ k, TT (fam (iF k)) (inx (iF k)) = TF (k + 1) := fun k => by rw [(fam_iF k).1, (fam_iF k).2, t1]
  have sB : ∀ k, TT (fam (iB k)) (inx (iB k)) = TB (k + 1) := fun k => by rw [(fam_iB k).1, (fam_iB k).2, t2]
  have sP : ∀ k, TT (fam (iP k)) (inx (iP k)) = TP (k + 1) := fun k => by rw [(fam_iP k).1, (fam_iP k).2, t4]
  refine ⟨fun j => TT (fam j) (inx j), ⟨hsp, ?_, ⟨xF, ?_, fun k hk => ?_⟩, ⟨xB, ?_, fun k hk => ?_⟩, ?_, ⟨xP, ?_, fun k x hx j u hu => ?_⟩, ?_, fun k x hx => ?_, fun k x hx => ?_, fun k x hx => ?_⟩, by show (TT (fam 1) (inx 1)).v = _; rw [s1, eF], by show (TT (fam 2) (inx 2)).v = _; rw [s2, eB], by show (TT (fam 3) (inx 3)).v = _; rw [s3], by show (TT (fam 4) (inx 4)).v = _; rw [s4, eP], by show (TT (fam 5) (inx 5)).v = _; rw [s5]⟩
  · show TT 0 0 = _
    rw [s1, s2, s3, s4, s5, t0, eF, eB, eP]
    rfl
  · rw [s1, eF]
  · rw [sF]; exact hxF k hk
  · rw [s2, eB]
  · rw [sB]; exact hxB k hk
  · rw [s3]
  · rw [s4, eP]
  · rw [sP] at hu; exact hxP k x hx j u hu
  · rw [s5]
  · rw [sF]; exact hF.ls k x hx
  · rw [sB]; exact hB.ls k x hx
  · rw [sP]; exact hP.ls k x hx
section
variable {w w' : World} {B : Nat} {v : Value} {T : Nat → Spot}
theorem Lists.keep {l : List (List Int)} (h : Lists w B v l T) (hk : ∀ q, B ≤ q → q < w.heap.size → w'.heap[q]? = w.heap[q]?) : Lists w' B v l T := ⟨h.sp.keep fun j g hg => hk g (h.sp.lt hg).1 (h.sp.lt hg).2, h.hd, h.ls⟩
theorem Pars.keep {l : List Inf} (h : Pars w B v l T) (hk : ∀ q, B ≤ q → q < w.heap.size → w'.heap[q]? = w.heap[q]?) : Pars w' B v l T := ⟨h.sp.keep fun j g hg => hk g (h.sp.lt hg).1 (h.sp.lt hg).2, h.hd, h.ls⟩
end
/-- Cells that the reading of loops meets, as one row. -/
theorem RdIs.reads {w : World} {B n c : Nat} {A : Option Addr} {l : List Inf} (h : RdIs w B (.slice A n c) l) : ∃ xs, Reads w B 6 A n xs ∧ l.length = n ∧ (∀ u ∈ xs, u.oneCell' = true) ∧ ∀ k x, l[k]? = some x → ∃ s, (∀ j u, [Value.int .i64 x.k, .int .i64 x.y, .int .i64 x.b, .int .i64 x.p, .int .i64 x.d, s][j]? = some u → xs[k * 6 + j]? = some u) ∧ RdI w B s x.ps ∧ ∃ A' c', s = .slice A' x.ps.length c' := by
  obtain ⟨A', n', c', e, hn, hl, h0⟩ := h
  injection e with e1 e2 e3
  subst e1 e2 e3
  have hat : ∀ k, k < n → ∃ b off x A1 c1, A = some ⟨b, off, none⟩ ∧ b < B ∧ l[k]? = some x ∧ CellsAt w b (off + k * 6) [.int .i64 x.k, .int .i64 x.y, .int .i64 x.b, .int .i64 x.p, .int .i64 x.d, .slice A1 x.ps.length c1] ∧ RdI w B (.slice A1 x.ps.length c1) x.ps ∧ x.ps.length ≤ c1 := fun k hk => RdIs.at_cap (c := c) (⟨A, n, c, rfl, hn, hl, h0⟩ : RdIs w B (.slice A n c) l) hk
  by_cases hz : n = 0
  · subst hz
    exact ⟨[], Reads.none_, hl.out, by simp, fun k x hx => by have := (List.getElem?_eq_some_iff.1 hx).1; have := hl.out; omega⟩
  · obtain ⟨b, off, -, -, -, hA, hbB, -⟩ := hat 0 (by omega)
    have hcell : ∀ i, i < n * 6 → ∃ u, w.cell? ⟨b, off + i, none⟩ = some u ∧ u.oneCell' = true := fun i hi => by
      obtain ⟨b', off', x, A1, c1, e, -, -, hc, -⟩ := hat (i / 6) (by omega)
      rw [hA] at e
      injection e with e
      injection e with q1 q2
      subst q1 q2
      obtain ⟨c0, c1', c2, c3, c4, c5⟩ := hc.six
      have hm : i % 6 < 6 := Nat.mod_lt _ (by omega)
      have e6 : off + i = off + i / 6 * 6 + i % 6 := by omega
      obtain h | h | h | h | h | h : i % 6 = 0 ∨ i % 6 = 1 ∨ i % 6 = 2 ∨ i % 6 = 3 ∨ i % 6 = 4 ∨ i % 6 = 5 := by omega
      all_goals rw [e6, h]
      · exact ⟨_, c0, rfl⟩
      · exact ⟨_, c1', rfl⟩
      · exact ⟨_, c2, rfl⟩
      · exact ⟨_, c3, rfl⟩
      · exact ⟨_, c4, rfl⟩
      · exact ⟨_, c5, rfl⟩
    refine ⟨(List.range (n * 6)).map fun i => (w.cell? ⟨b, off + i, none⟩).getD undef, ⟨by simp, fun _ => ⟨⟨b, off, none⟩, hA, hbB, fun j u hu => ?_⟩⟩, hl.out, fun u hu => ?_, fun k x hx => ?_⟩
    · have hj : j < n * 6 := by have := (List.getElem?_eq_some_iff.1 hu).1; simpa using this
      rw [List.getElem?_map, List.getElem?_range hj] at hu
      obtain ⟨u', hc, -⟩ := hcell j hj
      simp [hc] at hu
      subst hu
      have e : (⟨b, off, none⟩ : Addr).add j = ⟨b, off + j, none⟩ := by unfold Addr.add; split <;> simp_all
      rw [e]; exact hc
    · obtain ⟨i, hi, rfl⟩ := List.mem_map.1 hu
      obtain ⟨u', hc, ho⟩ := hcell i (by simpa using hi)
      rw [hc]; exact ho
    · have hk : k < n := by have := (List.getElem?_eq_some_iff.1 hx).1; have := hl.out; omega
      obtain ⟨b', off', x', A1, c1, e, -, hx', hc, hr, -⟩ := hat k hk
      rw [hA] at e
      injection e with e
      injection e with q1 q2
      subst q1 q2
      rw [hx] at hx'
      injection hx' with hx'
      subst hx'
      refine ⟨_, fun j u hu => ?_, hr, _, _, rfl⟩
      have hj : j < 6 := (List.getElem?_eq_some_iff.1 hu).1
      rw [List.getElem?_map, List.getElem?_range (by omega)]
      have h9 := hc j u hu
      rw [show off + k * 6 + j = off + (k * 6 + j) by omega] at h9
      simp [h9]

end Go.Proofs.Ytmcalioldphfeaa

/-
  The program's copyMachine.
-/
namespace Go.Proofs.Ytmcalioldphfeaa
set_option linter.unusedVariables false
set_option linter.unusedSimpArgs false
open Go.RowKit

/-- While a machine is copied: its box, and the result's. -/
structure Cpy (w : World) (us : List Value) (wx : World) : Prop where
  box : wx.ownsRow w.heap.size 32 7 (.slice (some ⟨w.heap.size, 0, none⟩) 1 1) 1 us
  res : Bx wx (w.heap.size + 1) zeroM
  bel : Below w.heap.size w wx
theorem Cpy.below {w wx wy : World} {us : List Value} (h : Cpy w us wx) (hb : Below (w.heap.size + 2) wx wy) : Cpy w us wy :=
  ⟨own_keep h.box (fun q hq => hb.block q (by have h9 : w.heap.size = q := by injection hq
                                              omega)), h.res.below hb (by omega), h.bel.trans (hb.mono (by omega))⟩
theorem Cpy.set {w wx : World} {i : Nat} {us : List Value} (h : Cpy w us wx) (hi : i < 7) (u : Value) : Cpy w (us.set i u) (wx.setCell ⟨w.heap.size, i, none⟩ u) :=
  ⟨own_setx u h.box (by omega), h.res.far (by omega) _ _, h.bel.setCell (Nat.le_refl _) _⟩
theorem Cpy.size {w wx : World} {us : List Value} (h : Cpy w us wx) : w.heap.size + 2 ≤ wx.heap.size := h.res.2.2
theorem keep_box {w : World} {g i : Nat} {u : Value} : ∀ q, g + 2 ≤ q → (w.setCell ⟨g, i, none⟩ u).heap[q]? = w.heap[q]? := fun q hq => Below.heap_setCell _ _ _ _ (by show q ≠ g; omega)
theorem own_box {w : World} {B E sz n g i : Nat} {v u : Value} {xs : List Value} (h : w.ownsRow B E sz v n xs) (hB : g + 2 ≤ B) : (w.setCell ⟨g, i, none⟩ u).ownsRow B E sz v n xs := own_keep h (fun q hq => keep_box q (by have := (World.ownsRow.lt h q hq).1; omega))
theorem own_up {w w' : World} {B E sz n b : Nat} {v : Value} {xs : List Value} (h : w.ownsRow B E sz v n xs) (hu : ∀ q, v.ownBlock = some q → q < b) (hb : Below b w w') : w'.ownsRow B E sz v n xs := own_keep h (fun q hq => hb.block q (hu q hq))
theorem Lists.up {w w' : World} {B b : Nat} {v : Value} {l : List (List Int)} {T : Nat → Spot} (h : Lists w B v l T) (hu : ∀ j q, (T j).v.ownBlock = some q → q < b) (hb : Below b w w') : Lists w' B v l T := ⟨h.sp.keep fun j g hg => hb.block g (hu j g hg), h.hd, h.ls⟩
theorem Lists.slice {w : World} {B : Nat} {v : Value} {l : List (List Int)} {T : Nat → Spot} (h : Lists w B v l T) : ∃ A c, v = .slice A l.length c := by
  obtain ⟨xs, e, -⟩ := h.hd
  have h9 := h.sp.own 0
  rw [e] at h9
  obtain ⟨A, c, h, -⟩ := (OwC.of_own h9).cells
  exact ⟨A, c, h⟩
theorem row_A {w : World} {B E sz n : Nat} {v : Value} {xs : List Value} (h : w.ownsRow B E sz v n xs) : ∃ A c, v = .slice A n c := by
  obtain ⟨A, c, h, -⟩ := (OwC.of_own h).cells
  exact ⟨A, c, h⟩
/-- The rows that stand already while the loops' parents are copied. -/
structure CpR (w : World) (m : Mc) (a2 a3 a4 : Nat) (vF vB vC : Value) (TF TB : Nat → Spot) (wx : World) : Prop where
  f : Lists wx (w.heap.size + 2) vF m.fr TF
  uf : ∀ j q, (TF j).v.ownBlock = some q → q < a2
  b : Lists wx a2 vB m.bk TB
  ub : ∀ j q, (TB j).v.ownBlock = some q → q < a3
  c : wx.ownsRow a3 52 2 vC m.cs.length (vS Car.cells m.cs)
  uc : ∀ q, vC.ownBlock = some q → q < a4
  l2 : w.heap.size + 2 ≤ a2
  l3 : a2 ≤ a3
  l4 : a3 ≤ a4
theorem CpR.up {w wx wy : World} {m : Mc} {a2 a3 a4 : Nat} {vF vB vC : Value} {TF TB : Nat → Spot} (h : CpR w m a2 a3 a4 vF vB vC TF TB wx) (hb : Below a4 wx wy) : CpR w m a2 a3 a4 vF vB vC TF TB wy :=
  ⟨h.f.up (b := a4) (fun j q hq => by have := h.uf j q hq; have := h.l3; have := h.l4; omega) hb, h.uf, h.b.up (b := a4) (fun j q hq => by have := h.ub j q hq; have := h.l4; omega) hb, h.ub, own_up h.c h.uc hb, h.uc, h.l2, h.l3, h.l4⟩
theorem CpR.box {w wx : World} {m : Mc} {a2 a3 a4 i : Nat} {u vF vB vC : Value} {TF TB : Nat → Spot} (h : CpR w m a2 a3 a4 vF vB vC TF TB wx) : CpR w m a2 a3 a4 vF vB vC TF TB (wx.setCell ⟨w.heap.size, i, none⟩ u) :=
  ⟨h.f.keep (fun q hq _ => keep_box q hq), h.uf, h.b.keep (fun q hq _ => keep_box q (by have := h.l2; omega)), h.ub, own_box h.c (by have := h.l2; have := h.l3; omega), h.uc, h.l2, h.l3, h.l4⟩
/-- Half of the parents' rows are copied. -/
structure CpP (w wx : World) (a : Nat) (v : Value) (l : List Inf) (k : Nat) (T : Nat → Spot) (xs : List Value) : Prop where
  sp : SpotsT wx a T
  hd : T 0 = ⟨102, 6, v, l.length, xs⟩
  el : ∀ j x, l[j]? = some x → ∃ s, (∀ q u, [Value.int .i64 x.k, .int .i64 x.y, .int .i64 x.b, .int .i64 x.p, .int .i64 x.d, s][q]? = some u → xs[j * 6 + q]? = some u) ∧ (j < k → s = (T (j + 1)).v) ∧ (k ≤ j → RdI w w.heap.size s x.ps ∧ ∃ A c, s = .slice A x.ps.length c)
  ls : ∀ j x, j < k → l[j]? = some x → T (j + 1) = spI (T (j + 1)).v x.ps
@[go_sem] def ldCpy : Oper := { dst := some 34, op := Op.load 25 (Operand.tmp 33), type := 25, pos := "l07_machine.go:189", after := #[{ on := 7, ground := Ground.data }], guard := none }
set_option maxHeartbeats 40000000 in
set_option maxRecDepth 100000 in
theorem copyMachine_any (v : Value) (m : Mc) (w : World) (hl : RdM w w.heap.size v m) (hf : FitM m) : Calls Try.prog 45 #[v] w (MadeM w m) := by
  obtain ⟨f, b, cs, ls, d, rfl, h1, h2, h3, h4, h5, h6⟩ := hl
  obtain ⟨AF, cF, rfl⟩ := RdN.shape h1
  obtain ⟨AG, cG, rfl⟩ := RdN.shape h2
  obtain ⟨AC, cC, rfl⟩ := RdS.lens h3
  obtain ⟨AI, cI, rfl⟩ := RdN.shape h4
  obtain ⟨AD, cD, rfl⟩ := RdI.len h5
  have HF := Lib.hid h1
  have HG := Lib.hid h2
  have HC := Lib.hid h3
  have HI := Lib.hid h4
  have HD := Lib.hid h5
  have HFit := Lib.hid hf
  clear h1 h2 h3 h4 h5 h6 hf
  have B0 := ((Below.refl w.heap.size w).alloc (Nat.le_refl _) (.cells (mcV m.wd m.rk (.slice AF m.fr.length cF) (.slice AG m.bk.length cG) (.slice AC m.cs.length cC) (.slice AI m.ls.length cI) (.slice AD m.dr.length cD)) 32)).alloc (by simp) (.cells zeroM.toArray 32)
  have hbx := World.ownsRow_lit (base := w.heap.size) (e := 32) (size := 7) w (mcV m.wd m.rk (.slice AF m.fr.length cF) (.slice AG m.bk.length cG) (.slice AC m.cs.length cC) (.slice AI m.ls.length cI) (.slice AD m.dr.length cD)) 1 (Nat.le_refl _) (by unfold maxLen; omega) rfl
  have hrs := Bx.new (w.alloc (.cells (mcV m.wd m.rk (.slice AF m.fr.length cF) (.slice AG m.bk.length cG) (.slice AC m.cs.length cC) (.slice AI m.ls.length cI) (.slice AD m.dr.length cD)) 32)) zeroM 32
  rw [World.size_alloc] at hrs
  have C0 := Lib.hid (⟨hbx.alloc _, hrs, B0⟩   : Cpy w [.int .i64 m.wd, .int .i64 m.rk, .slice AF m.fr.length cF, .slice AG m.bk.length cG, .slice AC m.cs.length cC, .slice AI m.ls.length cI, .slice AD m.dr.length cD] _)
  have hz0 : ((w.alloc (.cells (mcV m.wd m.rk (.slice AF m.fr.length cF) (.slice AG m.bk.length cG) (.slice AC m.cs.length cC) (.slice AI m.ls.length cI) (.slice AD m.dr.length cD)) 32)).alloc (.cells zeroM.toArray 32)).heap.size = w.heap.size + 2 := by simp
  clear B0 hbx hrs
  go_enter Try.func45, Try.ntmps45
  go_wp2_with fail
  generalize (w.alloc (.cells (mcV m.wd m.rk (.slice AF m.fr.length cF) (.slice AG m.bk.length cG) (.slice AC m.cs.length cC) (.slice AI m.ls.length cI) (.slice AD m.dr.length cD)) 32)).alloc (.cells zeroM.toArray 32) = W0 at *
  -- the front
  refine (copyLists_any _ m.fr W0 (RdLL.up HF.out C0.out.bel C0.out.bel.size) HFit.out.fr HFit.out.frs).mono ?_
  rintro e w1 ⟨vF, TF, rfl, hF, hb1⟩
  obtain ⟨A1, c1, rfl⟩ := hF.slice
  have D1 := C0.out.below (hb1.mono (by omega))
  obtain ⟨⟨y0, y1, y2, y3, y4, y5, y6⟩, yf, -⟩ := box7 D1.box
  have C1 := Lib.hid (D1.set (i := 2) (by omega) (.slice A1 m.fr.length c1))
  rw [hz0] at hF
  have F1 := Lib.hid (hF.keep (w' := w1.setCell ⟨w.heap.size, 2, none⟩ (.slice A1 m.fr.length c1)) (fun q hq _ => keep_box q hq))
  have U1 : Hid (∀ j q, (TF j).v.ownBlock = some q → q < w1.heap.size) := fun j q hq => (hF.sp.lt hq).2
  have hz1 : w.heap.size + 2 ≤ w1.heap.size := D1.size
  clear hF hb1 D1 C0 hz0
  go_wp2_with fail
  generalize hw1 : w1.setCell ⟨w.heap.size, 2, none⟩ (.slice A1 m.fr.length c1) = W1 at *
  have hs1 : W1.heap.size = w1.heap.size := by rw [← hw1]; simp
  clear hw1 y0 y1 y2 y3 y4 y5 y6 yf
  -- the back
  refine (copyLists_any _ m.bk W1 (RdLL.up HG.out C1.out.bel C1.out.bel.size) HFit.out.bk HFit.out.bks).mono ?_
  rintro e w2 ⟨vB, TB, rfl, hB, hb2⟩
  obtain ⟨A2, c2, rfl⟩ := hB.slice
  have D2 := C1.out.below (hb2.mono (by omega))
  obtain ⟨⟨y0, y1, y2, y3, y4, y5, y6⟩, yf, -⟩ := box7 D2.box
  have C2 := Lib.hid (D2.set (i := 3) (by omega) (.slice A2 m.bk.length c2))
  have F2 := Lib.hid (((F1.out.up (b := W1.heap.size) (fun j q hq => by rw [hs1]; exact U1.out j q hq) hb2)).keep (w' := w2.setCell ⟨w.heap.size, 3, none⟩ (.slice A2 m.bk.length c2)) (fun q hq _ => keep_box q hq))
  have G2 := Lib.hid (hB.keep (w' := w2.setCell ⟨w.heap.size, 3, none⟩ (.slice A2 m.bk.length c2)) (fun q hq _ => keep_box q (by omega)))
  have U2 : Hid (∀ j q, (TB j).v.ownBlock = some q → q < w2.heap.size) := fun j q hq => (hB.sp.lt hq).2
  have hz2 : W1.heap.size ≤ w2.heap.size := hb2.size
  clear hB hb2 D2 C1 F1
  go_wp2_with fail
  generalize hw2 : w2.setCell ⟨w.heap.size, 3, none⟩ (.slice A2 m.bk.length c2) = W2 at *
  have hs2 : W2.heap.size = w2.heap.size := by rw [← hw2]; simp
  clear hw2 y0 y1 y2 y3 y4 y5 y6 yf
  -- the carriers
  refine (cloneCO AC cC m.cs.length (vS Car.cells m.cs) W2 (RdS.reads Car.len (by omega) (RdCs.up HC.out C2.out.bel C2.out.bel.size)).1 HFit.out.cs (car_one _)).mono ?_
  rintro e w3 ⟨vC, rfl, hC, hb3⟩
  obtain ⟨A3, c3, rfl⟩ := row_A hC
  have D3 := C2.out.below (hb3.mono (by omega))
  obtain ⟨⟨y0, y1, y2, y3, y4, y5, y6⟩, yf, -⟩ := box7 D3.box
  have C3 := Lib.hid (D3.set (i := 4) (by omega) (.slice A3 m.cs.length c3))
  have R3 := Lib.hid ((⟨F2.out.up (b := W2.heap.size) (fun j q hq => by have := U1.out j q hq; omega) hb3, fun j q hq => by have := U1.out j q hq; omega, G2.out.up (b := W2.heap.size) (fun j q hq => by have := U2.out j q hq; omega) hb3, fun j q hq => by have := U2.out j q hq; omega, hC, fun q hq => (World.ownsRow.lt hC q hq).2, by omega, by omega, hb3.size⟩ : CpR w m W1.heap.size W2.heap.size w3.heap.size _ _ _ TF TB w3).box (i := 4) (u := .slice A3 m.cs.length c3))
  have hz3 : W2.heap.size ≤ w3.heap.size := hb3.size
  clear hC hb3 D3 C2 F2 G2 U1 U2
  go_wp2_with fail
  generalize hw3 : w3.setCell ⟨w.heap.size, 4, none⟩ (.slice A3 m.cs.length c3) = W3 at *
  have hs3 : W3.heap.size = w3.heap.size := by rw [← hw3]; simp
  rw [← hs3] at R3
  clear hw3 y0 y1 y2 y3 y4 y5 y6 yf
  -- the loops
  obtain ⟨xs4, hr4, hl4, ho4, hx4⟩ := RdIs.reads HI.out
  have HX4 := Lib.hid hx4
  have HR4 := Lib.hid ((hr4.below C3.out.bel).more C3.out.bel.size)
  clear hr4 hl4 hx4
  refine (cloneLO AI cI m.ls.length xs4 W3 HR4.out HFit.out.ls ho4).mono ?_
  rintro e w4 ⟨vL, rfl, hL, hb4⟩
  obtain ⟨A4, c4, rfl⟩ := row_A hL
  have D4 := C3.out.below (hb4.mono (by omega))
  obtain ⟨⟨y0, y1, y2, y3, y4, y5, y6⟩, yf, -⟩ := box7 D4.box
  have C4 := Lib.hid (D4.set (i := 5) (by omega) (.slice A4 m.ls.length c4))
  have R4 := Lib.hid ((R3.out.up hb4).box (i := 5) (u := .slice A4 m.ls.length c4))
  have hL2 := own_box (i := 5) (u := .slice A4 m.ls.length c4) hL (show w.heap.size + 2 ≤ W3.heap.size by omega)
  have P4 := Lib.hid (⟨one1_sp (s := ⟨102, 6, .slice A4 m.ls.length c4, m.ls.length, xs4⟩) hL2, rfl, fun j x hx => by
    obtain ⟨s, h1, h2, h3⟩ := HX4.out j x hx
    exact ⟨s, h1, fun h => absurd h (by omega), fun _ => ⟨h2, h3⟩⟩, fun j x h => absurd h (by omega)⟩ : CpP w _ W3.heap.size (.slice A4 m.ls.length c4) m.ls 0 (one1 _) xs4)
  have hz4 : W3.heap.size ≤ w4.heap.size := hb4.size
  have hlsl : m.ls.length ≤ 1048576 := HFit.out.ls
  have HPS := Lib.hid HFit.out.lss
  clear hL hL2 hb4 D4 C3 R3 HX4 HR4 ho4
  go_wp2_with fail
  generalize hw4 : w4.setCell ⟨w.heap.size, 5, none⟩ (.slice A4 m.ls.length c4) = W4 at *
  have hs4 : W4.heap.size = w4.heap.size := by rw [← hw4]; simp
  clear hw4 y0 y1 y2 y3 y4 y5 y6 yf
  generalize one1 ⟨102, 6, .slice A4 m.ls.length c4, m.ls.length, xs4⟩ = T4 at *
  obtain ⟨⟨y0, y1, y2, y3, y4, y5, y6⟩, yf, -⟩ := box7 C4.out.box
  go_wp2
  clear y0 y1 y2 y3 y4 y5 y6 yf
  go_loopw [23] (fun i wr => ∃ (k : Nat) (T : Nat → Spot) (xs : List Value) (wq : World), wq = wr ∧ k ≤ m.ls.length ∧ i = .int .i64 k ∧ Hid (CpP w wq W3.heap.size (.slice A4 m.ls.length c4) m.ls k T xs) ∧ Hid (Below W3.heap.size W4 wq)) (fun i _ => m.ls.length - (intOf i).toNat)
  case atStart => exact ⟨0, T4, xs4, _, rfl, Nat.zero_le _, rfl, P4.out, Below.refl _ _⟩
  case round =>
    clear P4
    obtain ⟨k, T, xs, wq, hwq, hk, rfl, HP, HB⟩ := hrel
    subst hwq
    have Cq := C4.out.below (HB.out.mono (by omega))
    obtain ⟨⟨y0, y1, y2, y3, y4, y5, y6⟩, yf, -⟩ := box7 Cq.box
    have CQ := Lib.hid Cq
    clear Cq
    by_cases hlt : k < m.ls.length
    · have hx : m.ls[k]? = some m.ls[k] := List.getElem?_eq_getElem hlt
      generalize m.ls[k] = x at hx
      obtain ⟨s, hs1, -, hs2⟩ := HP.out.el k x hx
      obtain ⟨hrd, As, cs', rfl⟩ := hs2 (Nat.le_refl _)
      have how : wq.ownsRow W3.heap.size 102 6 (.slice A4 m.ls.length c4) m.ls.length xs := by have h9 := HP.out.sp.own 0; rw [HP.out.hd] at h9; exact h9
      obtain ⟨gL, cL, hvL, hLB, hLw, hLn, hoL⟩ := row_slice how (by omega)
      injection hvL with e1 _ e3
      subst e1 e3
      have y9 := (own_cellx how (i := k * 6 + 5) (hs1 5 _ rfl)).1
      have zf9 := (own_cellx how (i := k * 6 + 5) (hs1 5 _ rfl)).2.1
      have hxl := how.1
      have hgL : gL ≠ w.heap.size := by omega
      have hfar := far_cell hgL
      have hki : (k : Int) < (m.ls.length : Int) := by omega
      have hpl : x.ps.length ≤ 1048576 := HPS.out x (List.mem_of_getElem? hx)
      have HRD := Lib.hid ((((hrd.below CQ.out.bel).more CQ.out.bel.size)).reads).1
      have HX := Lib.hid hx
      have HXL := Lib.hid hxl
      have HS1 := Lib.hid hs1
      clear hs1 hs2 hrd how hx hxl hLn
      go_wp2
      rw [show ({ dst := some 34, op := Op.load 25 (Operand.tmp 33), type := 25, pos := "l07_machine.go:189", after := #[{ on := 7, ground := Ground.data }], guard := none } : Oper) = ldCpy from rfl]
      go_region_held3 (fun w' => w'.cell? ⟨w.heap.size, 5, none⟩ = some (.slice (some ⟨gL, 0, none⟩) m.ls.length c4))
        (first | with_reducible exact y5 | with_reducible exact z5 | (simp only [drew_cell, hfar]; with_reducible exact z5) | go_keep)
        (first
          | (go_at_call 101; refine (cloneIO As cs' x.ps.length (vI x.ps) wq.drew (by exact HRD.out) hpl (vI_one x.ps)).mono ?_; rintro e w5 ⟨v5, rfl, ho5, hb5⟩; have hb5' : Below wq.heap.size wq w5 := (Below.refl _ wq).drew.trans hb5; obtain ⟨A5, c5, rfl⟩ := row_A ho5; have z5 : w5.cell? ⟨w.heap.size, 5, none⟩ = some (.slice (some ⟨gL, 0, none⟩) m.ls.length c4) := (hb5'.cell (p := ⟨w.heap.size, 5, none⟩) (by have := CQ.out.size; show w.heap.size < _; omega)).trans y5; have z9 : w5.cell? ⟨gL, k * 6 + 5, none⟩ = _ := (hb5'.cell (p := ⟨gL, k * 6 + 5, none⟩) hLw).trans y9; have zf : ∀ o, w5.frozen? ⟨gL, o, none⟩ = false := fun o => (hb5'.frozen (p := ⟨gL, o, none⟩) hLw).trans (zf9 o)))
      all_goals
        have hs5 := HP.out.sp.putNew hb5' (k + 1) (spI (.slice A5 x.ps.length c5) x.ps) ho5 (by have := HB.out.size; omega)
        have e0 : putS T (k + 1) (spI (.slice A5 x.ps.length c5) x.ps) 0 = T 0 := putS_ne (by omega)
        have hs6 := hs5.setCell (p := 0) (g := gL) (i := k * 6 + 5) (by rw [e0, HP.out.hd]; exact hoL) (.slice A5 x.ps.length c5) (by rw [e0, HP.out.hd]; show k * 6 + 5 < m.ls.length * 6; omega)
        rw [e0] at hs6
        have HS6 := Lib.hid hs6
        have HB6 := Lib.hid ((HB.out.trans (hb5'.mono (by have := HB.out.size; omega))).setCell (p := ⟨gL, k * 6 + 5, none⟩) hLB (.slice A5 x.ps.length c5))
        clear hs5 hs6 e0 ho5 hb5 hb5' z5 z9 zf y9 zf9 y0 y1 y2 y3 y4 y5 y6 yf
        go_wp2
        refine ⟨⟨k + 1, _, xs.set (k * 6 + 5) (.slice A5 x.ps.length c5), _, rfl, by omega, by go_num, ⟨HS6.out, ?_, fun j y hy => ?_, fun j y hj hy => ?_⟩, HB6.out⟩, by simp [intOf]; omega⟩
        · show putS _ 0 _ 0 = _
          rw [putS_same, HP.out.hd]
        · by_cases e : j = k
          · subst e
            have hxy : x = y := by have := HX.out; rw [this] at hy; injection hy
            subst hxy
            refine ⟨.slice A5 x.ps.length c5, fun q u hu => ?_, fun _ => ?_, fun h => absurd h (by omega)⟩
            · have hq : q < 6 := (List.getElem?_eq_some_iff.1 hu).1
              by_cases h5 : q = 5
              · subst h5
                rw [List.getElem?_set_self (by have := HXL.out; omega)]
                exact hu
              · rw [List.getElem?_set_ne (by omega)]
                refine HS1.out q u ?_
                rcases q with _ | _ | _ | _ | _ | _ | q
                all_goals first | exact hu | omega
            · show _ = (putS (putS T (j + 1) _) 0 _ (j + 1)).v
              rw [putS_ne (show j + 1 ≠ 0 by omega), putS_same]
          · obtain ⟨s, h1, h2, h3⟩ := HP.out.el j y hy
            refine ⟨s, fun q u hu => ?_, fun h => ?_, fun h => h3 (by omega)⟩
            · have hq : q < 6 := (List.getElem?_eq_some_iff.1 hu).1
              rw [List.getElem?_set_ne (by omega)]
              exact h1 q u hu
            · rw [h2 (by omega)]
              show _ = (putS (putS T (k + 1) _) 0 _ (j + 1)).v
              rw [putS_ne (show j + 1 ≠ 0 by omega), putS_ne (show j + 1 ≠ k + 1 by omega)]
        · show putS (putS T (k + 1) _) 0 _ (j + 1) = _
          rw [putS_ne (show j + 1 ≠ 0 by omega)]
          by_cases e : j = k
          · subst e
            rw [putS_same]
            have hxy : x = y := by have := HX.out; rw [this] at hy; injection hy
            rw [hxy]
          · rw [putS_ne (show j + 1 ≠ k + 1 by omega)]
            exact HP.out.ls j y (by omega) hy
    · have hke : k = m.ls.length := by omega
      subst hke
      have Rq := Lib.hid (R4.out.up HB.out)
      have hzq : W3.heap.size ≤ wq.heap.size := by have := HB.out.size; omega
      have HRD := Lib.hid ((((HD.out.below CQ.out.bel).more CQ.out.bel.size)).reads).1
      clear hlt hk R4 C4
      go_wp2_with fail
      refine (cloneIO AD cD m.dr.length (vI m.dr) wq HRD.out HFit.out.dr (vI_one m.dr)).mono ?_
      rintro e w5 ⟨v5, rfl, hD5, hb5⟩
      obtain ⟨A5, c5, rfl⟩ := row_A hD5
      have D5 := CQ.out.below (hb5.mono (by have := CQ.out.size; omega))
      clear y0 y1 y2 y3 y4 y5 y6 yf
      obtain ⟨⟨y0, y1, y2, y3, y4, y5, y6⟩, yf, -⟩ := box7 D5.box
      have C5 := Lib.hid (D5.set (i := 6) (by omega) (.slice A5 m.dr.length c5))
      have R5 := Lib.hid ((Rq.out.up (hb5.mono hzq)).box (i := 6) (u := .slice A5 m.dr.length c5))
      have hP5 : Pars w5 W3.heap.size (.slice A4 m.ls.length c4) m.ls T := by
        refine ⟨HP.out.sp.below hb5, ⟨xs, HP.out.hd, fun j x hx q u hu => ?_⟩, fun j x hx => HP.out.ls j x (List.getElem?_eq_some_iff.1 hx).1 hx⟩
        obtain ⟨s, h1, h2, -⟩ := HP.out.el j x hx
        rw [← h2 (List.getElem?_eq_some_iff.1 hx).1] at hu
        exact h1 q u hu
      have P5 := Lib.hid (hP5.keep (w' := w5.setCell ⟨w.heap.size, 6, none⟩ (.slice A5 m.dr.length c5)) (fun q hq _ => keep_box q (by omega)))
      have UP5 : Hid (∀ j q, (T j).v.ownBlock = some q → q < wq.heap.size) := fun j q hq => (HP.out.sp.lt hq).2
      have E5 := Lib.hid (own_box (i := 6) (u := .slice A5 m.dr.length c5) hD5 (show w.heap.size + 2 ≤ wq.heap.size by omega))
      have UE5 : Hid (∀ q, (Value.slice A5 m.dr.length c5).ownBlock = some q → q < w5.heap.size) := fun q hq => (World.ownsRow.lt hD5 q hq).2
      have hz5 : wq.heap.size ≤ w5.heap.size := hb5.size
      have rr := D5.res
      obtain ⟨r0, r1, r2, r3, r4, r5, r6⟩ := CellsAt.seven rr.1
      have rf := rr.2.1
      clear hD5 hb5 D5 CQ Rq hP5 HP HB rr HRD
      go_wp2
      refine bodyPost_ret (v := .agg (mcV m.wd m.rk (.slice A1 m.fr.length c1) (.slice A2 m.bk.length c2) (.slice A3 m.cs.length c3) (.slice A4 m.ls.length c4) (.slice A5 m.dr.length c5))) (by simp [results, Try.results45, go_sem, r0, r1, r2, r3, r4, r5, r6, World.cell?_setCell_other]) rfl ?_
      have hk7 : ∀ q, q ≠ w.heap.size + 1 → (((((((((w5.setCell ⟨w.heap.size, 6, none⟩ (.slice A5 m.dr.length c5)).setCell ⟨w.heap.size + 1, 0, none⟩ (.int .i64 m.wd)).setCell ⟨w.heap.size + 1, 1, none⟩ (.int .i64 m.rk)).setCell ⟨w.heap.size + 1, 2, none⟩ (.slice A1 m.fr.length c1)).setCell ⟨w.heap.size + 1, 3, none⟩ (.slice A2 m.bk.length c2)).setCell ⟨w.heap.size + 1, 4, none⟩ (.slice A3 m.cs.length c3)).setCell ⟨w.heap.size + 1, 5, none⟩ (.slice A4 m.ls.length c4)).setCell ⟨w.heap.size + 1, 6, none⟩ (.slice A5 m.dr.length c5))).heap[q]? = (w5.setCell ⟨w.heap.size, 6, none⟩ (.slice A5 m.dr.length c5)).heap[q]? := fun q hq => set7_heap _ _ _ _ _ _ _ _ _ _ hq
      have r5 := R5.out
      obtain ⟨S, hS, e1, e2, e3, e4, e5⟩ := MSt.join (g := w.heap.size) (a0 := w.heap.size) (a1 := w.heap.size + 2) (a2 := W1.heap.size) (a3 := W2.heap.size) (a4 := W3.heap.size) (a5 := wq.heap.size) (a6 := w5.heap.size) (m := m)
        (own_far7 (g := w.heap.size + 1) C5.out.box (fun h => absurd (show w.heap.size = w.heap.size + 1 by injection h) (by omega)) (.int .i64 m.wd) (.int .i64 m.rk) (.slice A1 m.fr.length c1) (.slice A2 m.bk.length c2) (.slice A3 m.cs.length c3) (.slice A4 m.ls.length c4) (.slice A5 m.dr.length c5)) (by omega)
        (r5.f.keep (fun q hq _ => hk7 q (by omega))) r5.uf (r5.b.keep (fun q hq _ => hk7 q (by have := r5.l2; omega))) r5.ub (own_keep r5.c (fun q hq => hk7 q (by have := (World.ownsRow.lt r5.c q hq).1; have := r5.l2; have := r5.l3; omega))) r5.uc
        (P5.out.keep (fun q hq _ => hk7 q (by omega))) UP5.out (own_keep E5.out (fun q hq => hk7 q (by have := (World.ownsRow.lt E5.out q hq).1; omega))) UE5.out (by omega) r5.l2 r5.l3 r5.l4 hzq hz5
      refine ⟨S, w.heap.size, by rw [e1, e2, e3, e4, e5], hS, ?_⟩
      exact ((((((C5.out.bel.setCell (Nat.le_succ _) _).setCell (Nat.le_succ _) _).setCell (Nat.le_succ _) _).setCell (Nat.le_succ _) _).setCell (Nat.le_succ _) _).setCell (Nat.le_succ _) _).setCell (Nat.le_succ _) _

end Go.Proofs.Ytmcalioldphfeaa
