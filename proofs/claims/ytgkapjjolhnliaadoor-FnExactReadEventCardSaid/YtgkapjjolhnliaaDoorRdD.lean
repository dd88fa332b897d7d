/-
  The program's ReadDecimal.
-/
import Derived.Test.YtgkapjjolhnliaaDoorRdB
import Derived.Test.YtgkapjjolhnliaaDoorDecI
import Derived.Shelf.Strconv.ErrVarParseInt
import Derived.Shelf.Strings.Split
namespace Go.Proofs.YtgkapjjolhnliaaDoor
set_option linter.unusedVariables false
set_option linter.unusedSimpArgs false
open Go.RowKit Go.Shelf

theorem decV_ge (l : List UInt8) : ∀ a, a ≤ decV a l := by
  induction l with
  | nil => intro a; exact Nat.le_refl _
  | cons x xs ih => intro a; rw [decV_cons]; have := ih (10 * a + (x.toNat - 48)); omega
theorem parseU (M : Nat) (hM : 999999999 ≤ M) (l : List UInt8) : ∀ a, (∀ x ∈ l, isDig x = true) → decV a l ≤ 999999999 → Lib.parseUintM M a l = .ok (decV a l) := by
  induction l with
  | nil => intro a _ _; rfl
  | cons x xs ih =>
    intro a hd hv
    have h1 := hd x (by simp)
    unfold isDig at h1
    simp at h1
    rw [decV_cons] at hv ⊢
    have h2 := decV_ge xs (10 * a + (x.toNat - 48))
    rw [Lib.parseUintM, if_pos h1, if_neg (by omega), if_neg (by omega), show a * 10 + (x.toNat - 48) = 10 * a + (x.toNat - 48) by omega]
    exact ih _ (fun y hy => hd y (by simp [hy])) hv
theorem parse_itoa {m : Int} (h0 : -999999999 ≤ m) (h1 : m ≤ 999999999) : Lib.parseIntB 64 (Lib.itoa m) = .ok m := by
  obtain ⟨⟨l1, l2⟩, hd⟩ := itoa_abs h0 h1
  have hv := decV_digits m.natAbs
  rw [absT_itoa] at hd l1
  have hne : Lib.decDigits m.natAbs ≠ [] := by intro e; rw [e] at l1; simp at l1
  have hp := parseU (2 ^ 64 - 1) (by omega) (Lib.decDigits m.natAbs) 0 hd (by rw [hv]; omega)
  rw [hv] at hp
  by_cases h : m < 0
  · have e : Lib.itoa m = 45 :: Lib.decDigits m.natAbs := by unfold Lib.itoa; rw [if_pos h]
    rw [e]
    have hu : Lib.parseUintB 64 (Lib.decDigits m.natAbs) = .ok m.natAbs := by unfold Lib.parseUintB; rw [if_neg hne]; exact hp
    unfold Lib.parseIntB
    dsimp only
    rw [if_pos (Or.inr (show (45 : UInt8).toNat = 45 from rfl)), hu]
    dsimp only
    rw [if_neg (fun q => q.1 rfl), if_neg (by omega), if_pos (show (45 : UInt8).toNat = 45 from rfl)]
    congr 1
    omega
  · have e : Lib.itoa m = Lib.decDigits m.natAbs := by
      unfold Lib.itoa
      rw [if_neg h]
      congr 1
      omega
    rw [e]
    have hu : Lib.parseUintB 64 (Lib.decDigits m.natAbs) = .ok m.natAbs := by unfold Lib.parseUintB; rw [if_neg hne]; exact hp
    cases hl : Lib.decDigits m.natAbs with
    | nil => exact absurd hl hne
    | cons c r =>
      have h9 := hd c (by rw [hl]; simp)
      unfold isDig at h9
      simp at h9
      rw [hl] at hu
      unfold Lib.parseIntB
      dsimp only
      rw [if_neg (by omega), hu]
      dsimp only
      rw [if_neg (by omega), if_neg (by omega), if_neg (by omega)]
      congr 1
      omega
theorem numR_parse {l : List UInt8} (h : ∀ v, Lib.parseIntB 64 l = .ok v → ¬ (-999999999 ≤ v ∧ v ≤ 999999999)) : NumR l 0 := numR_zero fun m a b c => by
  subst c
  exact h m (parse_itoa a b) ⟨a, b⟩
theorem numR_yes {l : List UInt8} {v : Int} (h0 : -999999999 ≤ v) (h1 : v ≤ 999999999) (h2 : Lib.itoa v = l) : NumR l v := ⟨h0, h1, fun m _ _ c => itoa_inj (by rw [h2, c])⟩
theorem numR_differ {l : List UInt8} {v : Int} (h : Lib.parseIntB 64 l = .ok v) (h2 : Lib.itoa v ≠ l) : NumR l 0 := numR_zero fun m a b c => by
  subst c
  rw [parse_itoa a b] at h
  injection h with h
  exact h2 (by rw [h])
shelf_lay LaysC.n174 Nm 174 at Tryd as parseLay
shelf_lay LaysM.n146 Nm 146 at Tryd as splitLay
/-- A cell of the library's that holds an error. -/
def ErrC (B g : Nat) (w : World) : Prop := g < B ∧ ∃ ev, w.cell? ⟨g, 0, none⟩ = some ev ∧ (ev = .nilIface ∨ ∃ te pe, ev = .iface te pe)
/-- What the library's texts ask of the world below block B. -/
structure LibW (B : Nat) (w : World) : Prop where
  tab : TabW B w
  syn : ErrC B (parseLay_ren.g 15) w
  rng : ErrC B (parseLay_ren.g 16) w
  mx : splitLay_ren.g 1 < B ∧ ∃ m, w.cell? ⟨splitLay_ren.g 1, 0, none⟩ = some (.int .i64 m)
theorem ErrC.on {B g : Nat} {w w' : World} (h : ErrC B g w) (hb : Below B w w') : ErrC B g w' := by
  obtain ⟨h1, ev, h2, h3⟩ := h
  exact ⟨h1, ev, (hb.cell (p := ⟨g, 0, none⟩) h1).trans h2, h3⟩
theorem LibW.on {B : Nat} {w w' : World} (h : LibW B w) (hb : Below B w w') : LibW B w' :=
  ⟨h.tab.on hb, h.syn.on hb, h.rng.on hb, by
    obtain ⟨h1, m, h2⟩ := h.mx
    exact ⟨h1, m, (hb.cell (p := ⟨splitLay_ren.g 1, 0, none⟩) h1).trans h2⟩⟩
set_option maxHeartbeats 4000000 in
set_option maxRecDepth 100000 in
theorem ReadDecimal_any (s : ByteArray) (hs : s.size ≤ 1048576) (B : Nat) (w : World) (hB : B ≤ w.heap.size) (hL : LibW B w) : Calls Tryd.prog 21 #[.string s] w (NumC s.data.toList w) := by
  rcases hp : Lib.parseIntB 64 s.data.toList with v | _ | _
  rotate_left
  · obtain ⟨-, ev, h2, h3⟩ := hL.syn
    have hc := Any.strconv_ParseInt_10_at64_syntax parseLay s (by omega) hp ev w h2 h3
    have HN := Lib.hid (numR_parse (l := s.data.toList) (fun v hv => by rw [hp] at hv; cases hv))
    clear hL hp h2 h3
    go_enter Tryd.func21, Tryd.ntmps21
    go_wp2_with (go_at_call 33; refine hc.mono ?_; rintro e w' ⟨N, rfl, -, -, hb⟩)
    go_ret2
    exact ⟨_, _, rfl, HN.out, hb⟩
  · obtain ⟨-, ev, h2, h3⟩ := hL.rng
    have hc := Any.strconv_ParseInt_10_at64_range parseLay s (by omega) hp ev w h2 h3
    have HN := Lib.hid (numR_parse (l := s.data.toList) (fun v hv => by rw [hp] at hv; cases hv))
    clear hL hp h2 h3
    go_enter Tryd.func21, Tryd.ntmps21
    go_wp2_with (go_at_call 33; refine hc.mono ?_; rintro e w' ⟨N, rfl, -, -, hb⟩)
    go_ret2
    exact ⟨_, _, rfl, HN.out, hb⟩
  · have hc := Any.strconv_ParseInt_10_at64_ok parseLay s (by omega) v hp w
    have hBW : ∀ w' : World, (w' = w ∨ ∃ t, w' = Lib.bytesWorld w (parseLay_ren.t 5) t) → Below w.heap.size w w' := by
      rintro w' (rfl | ⟨t, rfl⟩)
      · exact Below.refl _ _
      · exact Lib.bytesWorld_below _ _ _
    have HBW := Lib.hid hBW
    clear hBW
    by_cases hv : -999999999 ≤ v ∧ v ≤ 999999999
    · obtain ⟨v0, v1⟩ := hv
      have HLL := Lib.hid hL.tab
      have hD := Lib.hid (fun (W : World) (hT : TabW B W) => Decimal_any v (by omega) (by omega) B W hT)
      have HP := Lib.hid hp
      clear hL hp
      by_cases hq : Lib.itoa v = s.data.toList
      · have HN := Lib.hid (numR_yes v0 v1 hq)
        have hqe : (Lib.itoa v == s.toList) = true := by rw [beq_iff_eq, Lib.toList_data]; exact hq
        clear hq
        go_enter Tryd.func21, Tryd.ntmps21
        go_wp2_with (first
          | (go_at_call 33; refine hc.mono ?_; rintro e w' ⟨rfl, hw'⟩; have HB1 := Lib.hid (HBW.out w' hw'); clear hw')
          | (go_at_call 27; refine (hD.out _ (HLL.out.on (HB1.out.mono hB))).mono ?_; rintro e w2 ⟨rfl, hb2⟩; unfold strV))
        go_ret2
        exact ⟨_, _, rfl, HN.out, HB1.out.trans (hb2.mono HB1.out.size)⟩
      · have HN := Lib.hid (numR_differ HP.out hq)
        have hqe : (Lib.itoa v == s.toList) = false := by rw [beq_eq_false_iff_ne, Lib.toList_data]; exact hq
        clear hq
        go_enter Tryd.func21, Tryd.ntmps21
        go_wp2_with (first
          | (go_at_call 33; refine hc.mono ?_; rintro e w' ⟨rfl, hw'⟩; have HB1 := Lib.hid (HBW.out w' hw'); clear hw')
          | (go_at_call 27; refine (hD.out _ (HLL.out.on (HB1.out.mono hB))).mono ?_; rintro e w2 ⟨rfl, hb2⟩; unfold strV))
        go_ret2
        exact ⟨_, _, rfl, HN.out, HB1.out.trans (hb2.mono HB1.out.size)⟩
    · have HN := Lib.hid (numR_parse (l := s.data.toList) (fun u hu => by rw [hp] at hu; injection hu with hu; subst hu; exact hv))
      clear hL hp
      by_cases h9 : 999999999 < v
      · clear hv
        go_enter Tryd.func21, Tryd.ntmps21
        go_wp2_with (go_at_call 33; refine hc.mono ?_; rintro e w' ⟨rfl, hw'⟩; have HB1 := Lib.hid (HBW.out w' hw'); clear hw')
        go_ret2
        exact ⟨_, _, rfl, HN.out, HB1.out⟩
      · have h8 : v < -999999999 := by omega
        clear hv
        go_enter Tryd.func21, Tryd.ntmps21
        go_wp2_with (go_at_call 33; refine hc.mono ?_; rintro e w' ⟨rfl, hw'⟩; have HB1 := Lib.hid (HBW.out w' hw'); clear hw')
        go_ret2
        exact ⟨_, _, rfl, HN.out, HB1.out⟩

end Go.Proofs.YtgkapjjolhnliaaDoor
