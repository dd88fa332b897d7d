/-
  The reference's l10Event at splits and at what is no event; l10Event whole.
-/
import Derived.Test.YtccdnmafakaleaaGreatDoorL10a
import Derived.Test.YtccdnmafakaleaaGreatDoorL10b
import Derived.Test.YtccdnmafakaleaaGreatDoorL10c
import Derived.Test.YtccdnmafakaleaaGreatDoorL10d
namespace Go.Proofs.YtccdnmafakaleaaGreatDoor
set_option linter.unusedVariables false
set_option linter.unusedSimpArgs false
open Go.RowKit

theorem five_cases (c n p : Int) (h0 : 0 ≤ n) (h1 : n ≤ 12) (hp0 : 0 ≤ p) (hpn : p ≤ n) :
    ((1 ≤ c ∧ c ≤ 4) ∧ Hid ((decide (1 ≤ c) && decide (c ≤ 4)) = true) ∧ IntKind.i64.wrap (n - c) = n - c ∧ IntKind.i64.wrap (n + 1) = n + 1 ∧ IntKind.i64.wrap (p + c) = p + c) ∨
    (¬ (1 ≤ c ∧ c ≤ 4) ∧ Hid ((decide (1 ≤ c) && decide (c ≤ 4)) = false) ∧ IntKind.i64.wrap (n + 1) = n + 1) := by
  unfold Hid
  rcases Classical.em (1 ≤ c ∧ c ≤ 4) with h | h
  · exact .inl ⟨h, by simp [h], IntWalk.i64_in _ (by omega), IntWalk.i64_in _ (by omega), IntWalk.i64_in _ (by omega)⟩
  · exact .inr ⟨h, by rw [Bool.eq_false_iff]; simpa using h, IntWalk.i64_in _ (by omega)⟩

/- l10Event at kind true: §2 its validity behind '0 ≤ p' · §3 the cases of the count (a disjunction's proof and pattern) · §4 the arm at l00In -/
set_option maxHeartbeats 8000000 in
set_option maxRecDepth 100000 in
theorem l10Event_k5true (p c bd y d : Int) (n : Int) (hbd : (bd == 1) = true) (h0 : 0 ≤ n) (h1 : n ≤ 12) (b o : Nat) (w : World) (hc : CellsAt w b o (⟨5, p, c, bd, y, d⟩ : Ev).cells) : Calls Tryz.prog 20 #[.pointer (some ⟨b, o, none⟩), .int .i64 n] w (EvRes n ⟨5, p, c, bd, y, d⟩ w) := by
  obtain ⟨c0, c1, c2, c3, c4, c5⟩ := hc.six
  obtain ⟨e0, e1, e2, e3, e4, e5⟩ := hc.grow6
  clear hc
  have HV := Lib.hid (show valE n ⟨5, p, c, bd, y, d⟩ = (decide (0 ≤ p) && ((decide (1 ≤ c) && decide (c ≤ 4)) && (stit3 bd y d && if bd = 1 then decide (p ≤ n - c) else decide (c ≤ p) && decide (p ≤ n)))) by rw [valE_K]; rfl)
  by_cases hp : 0 ≤ p ∧ p ≤ n
  case neg =>
    rcases sp_cases bd y d with ⟨p1, Hb, HS, HP⟩ | ⟨p1, Hb, Hy, HS, HP⟩ | ⟨p1, Hb, Hy, Hd, HS, HP⟩ | ⟨p1, Hb, Hy, Hd, HS, HP⟩ | ⟨p1, Hb, p2, HS, HP⟩ | ⟨p1, Hb, p2, p3, HS, HP⟩ | ⟨p1, Hb, p2, p3, HS, HP⟩
    all_goals
      go_enter Tryz.func20, Tryz.ntmps20
      go_wp2_with (first
        | (go_at_call 31; refine (l01Bed_any _ _).mono ?_; rintro e w' ⟨rfl, rfl⟩; rw [Hb.out])
        | (go_at_call 32; refine (l07Yarn_any _ _).mono ?_; rintro e w' ⟨rfl, rfl⟩; rw [Hy.out])
        | (go_at_call 33; refine (l07Dir_any _ _).mono ?_; rintro e w' ⟨rfl, rfl⟩; rw [Hd.out]))
      all_goals first
        | (go_ret2; exact evres_no (evres_out ⟨h0, h1⟩ hp) (Below.refl _ _))
        | (exfalso; omega)
  case pos =>
    obtain ⟨hp0, hpn⟩ := hp
    rcases five_cases c n p h0 h1 hp0 hpn with ⟨hr, HR, s1, s2, s3⟩ | ⟨hr, HR, s2⟩
    all_goals
      rcases sp_cases bd y d with ⟨p1, Hb, HS, HP⟩ | ⟨p1, Hb, Hy, HS, HP⟩ | ⟨p1, Hb, Hy, Hd, HS, HP⟩ | ⟨p1, Hb, Hy, Hd, HS, HP⟩ | ⟨p1, Hb, p2, HS, HP⟩ | ⟨p1, Hb, p2, p3, HS, HP⟩ | ⟨p1, Hb, p2, p3, HS, HP⟩
    all_goals
      go_enter Tryz.func20, Tryz.ntmps20
      go_wp2_with (first
        | (go_at_call 31; refine (l01Bed_any _ _).mono ?_; rintro e w' ⟨rfl, rfl⟩; rw [Hb.out])
        | (go_at_call 32; refine (l07Yarn_any _ _).mono ?_; rintro e w' ⟨rfl, rfl⟩; rw [Hy.out])
        | (go_at_call 33; refine (l07Dir_any _ _).mono ?_; rintro e w' ⟨rfl, rfl⟩; rw [Hd.out])
        | (go_at_call 34; refine (l00In_any _ _ _ _).mono ?_; rintro e w' ⟨rfl, rfl⟩; rw [HR.out]))
      refine wp_region_grow (by kernel_rfl) (by kernel_rfl) ?_
      repeat (go_big_quiet_step (fail))
      refine wpQuiet_nil ?_
      intro w1 hb1
      go_wp2
      go_ret2
      refine evresB ?_ ?_ hb1
      · rw [HV.out]; (first | rw [HS.out] | skip); (first | rw [HP.out] | skip); cases hdd : (bd == 1) <;> simp_all <;> (try omega)
      · intro hh; rw [HV.out] at hh; simp [aftE] at hh ⊢; try omega
/- l10Event at kind false: §2 its validity behind '0 ≤ p' · §3 the cases of the count (a disjunction's proof and pattern) · §4 the arm at l00In -/
set_option maxHeartbeats 8000000 in
set_option maxRecDepth 100000 in
theorem l10Event_k5false (p c bd y d : Int) (n : Int) (hbd : (bd == 1) = false) (h0 : 0 ≤ n) (h1 : n ≤ 12) (b o : Nat) (w : World) (hc : CellsAt w b o (⟨5, p, c, bd, y, d⟩ : Ev).cells) : Calls Tryz.prog 20 #[.pointer (some ⟨b, o, none⟩), .int .i64 n] w (EvRes n ⟨5, p, c, bd, y, d⟩ w) := by
  obtain ⟨c0, c1, c2, c3, c4, c5⟩ := hc.six
  obtain ⟨e0, e1, e2, e3, e4, e5⟩ := hc.grow6
  clear hc
  have HV := Lib.hid (show valE n ⟨5, p, c, bd, y, d⟩ = (decide (0 ≤ p) && ((decide (1 ≤ c) && decide (c ≤ 4)) && (stit3 bd y d && if bd = 1 then decide (p ≤ n - c) else decide (c ≤ p) && decide (p ≤ n)))) by rw [valE_K]; rfl)
  by_cases hp : 0 ≤ p ∧ p ≤ n
  case neg =>
    rcases sp_cases bd y d with ⟨p1, Hb, HS, HP⟩ | ⟨p1, Hb, Hy, HS, HP⟩ | ⟨p1, Hb, Hy, Hd, HS, HP⟩ | ⟨p1, Hb, Hy, Hd, HS, HP⟩ | ⟨p1, Hb, p2, HS, HP⟩ | ⟨p1, Hb, p2, p3, HS, HP⟩ | ⟨p1, Hb, p2, p3, HS, HP⟩
    all_goals
      go_enter Tryz.func20, Tryz.ntmps20
      go_wp2_with (first
        | (go_at_call 31; refine (l01Bed_any _ _).mono ?_; rintro e w' ⟨rfl, rfl⟩; rw [Hb.out])
        | (go_at_call 32; refine (l07Yarn_any _ _).mono ?_; rintro e w' ⟨rfl, rfl⟩; rw [Hy.out])
        | (go_at_call 33; refine (l07Dir_any _ _).mono ?_; rintro e w' ⟨rfl, rfl⟩; rw [Hd.out]))
      all_goals first
        | (go_ret2; exact evres_no (evres_out ⟨h0, h1⟩ hp) (Below.refl _ _))
        | (exfalso; omega)
  case pos =>
    obtain ⟨hp0, hpn⟩ := hp
    rcases five_cases c n p h0 h1 hp0 hpn with ⟨hr, HR, s1, s2, s3⟩ | ⟨hr, HR, s2⟩
    all_goals
      rcases sp_cases bd y d with ⟨p1, Hb, HS, HP⟩ | ⟨p1, Hb, Hy, HS, HP⟩ | ⟨p1, Hb, Hy, Hd, HS, HP⟩ | ⟨p1, Hb, Hy, Hd, HS, HP⟩ | ⟨p1, Hb, p2, HS, HP⟩ | ⟨p1, Hb, p2, p3, HS, HP⟩ | ⟨p1, Hb, p2, p3, HS, HP⟩
    all_goals
      go_enter Tryz.func20, Tryz.ntmps20
      go_wp2_with (first
        | (go_at_call 31; refine (l01Bed_any _ _).mono ?_; rintro e w' ⟨rfl, rfl⟩; rw [Hb.out])
        | (go_at_call 32; refine (l07Yarn_any _ _).mono ?_; rintro e w' ⟨rfl, rfl⟩; rw [Hy.out])
        | (go_at_call 33; refine (l07Dir_any _ _).mono ?_; rintro e w' ⟨rfl, rfl⟩; rw [Hd.out])
        | (go_at_call 34; refine (l00In_any _ _ _ _).mono ?_; rintro e w' ⟨rfl, rfl⟩; rw [HR.out]))
      refine wp_region_grow (by kernel_rfl) (by kernel_rfl) ?_
      repeat (go_big_quiet_step (fail))
      refine wpQuiet_nil ?_
      intro w1 hb1
      go_wp2
      go_ret2
      refine evresB ?_ ?_ hb1
      · rw [HV.out]; (first | rw [HS.out] | skip); (first | rw [HP.out] | skip); cases hdd : (bd == 1) <;> simp_all <;> (try omega)
      · intro hh; rw [HV.out] at hh; simp [aftE] at hh ⊢; try omega

set_option maxHeartbeats 8000000 in
set_option maxRecDepth 100000 in
theorem l10Event_k0 (k p c bd y d : Int) (k1 : (k == 1) = false) (k2 : (k == 2) = false) (k3 : (k == 3) = false) (k4 : (k == 4) = false) (k5 : (k == 5) = false) (n : Int) (hv : valE n ⟨k, p, c, bd, y, d⟩ = false) (b o : Nat) (w : World) (hc : CellsAt w b o (⟨k, p, c, bd, y, d⟩ : Ev).cells) : Calls Tryz.prog 20 #[.pointer (some ⟨b, o, none⟩), .int .i64 n] w (EvRes n ⟨k, p, c, bd, y, d⟩ w) := by
  obtain ⟨c0, c1, c2, c3, c4, c5⟩ := hc.six
  clear hc
  have HV := Lib.hid hv
  clear hv
  rcases sp_cases bd y d with ⟨p1, Hb, HS, HP⟩ | ⟨p1, Hb, Hy, HS, HP⟩ | ⟨p1, Hb, Hy, Hd, HS, HP⟩ | ⟨p1, Hb, Hy, Hd, HS, HP⟩ | ⟨p1, Hb, p2, HS, HP⟩ | ⟨p1, Hb, p2, p3, HS, HP⟩ | ⟨p1, Hb, p2, p3, HS, HP⟩
  all_goals
    go_enter Tryz.func20, Tryz.ntmps20
    go_wp2_with (first
      | (go_at_call 31; refine (l01Bed_any _ _).mono ?_; rintro e w' ⟨rfl, rfl⟩; rw [Hb.out])
      | (go_at_call 32; refine (l07Yarn_any _ _).mono ?_; rintro e w' ⟨rfl, rfl⟩; rw [Hy.out])
      | (go_at_call 33; refine (l07Dir_any _ _).mono ?_; rintro e w' ⟨rfl, rfl⟩; rw [Hd.out]))
    all_goals (go_ret2; exact evres_no HV.out (Below.refl _ _))

theorem l10Event_any (e : Ev) (n : Int) (h0 : 0 ≤ n) (h1 : n ≤ 12) (b o : Nat) (w : World) (hc : CellsAt w b o e.cells) : Calls Tryz.prog 20 #[.pointer (some ⟨b, o, none⟩), .int .i64 n] w (EvRes n e w) := by
  obtain ⟨k, p, c, bd, y, d⟩ := e
  by_cases k1 : k = 1
  · subst k1; exact l10Event_k1 p c bd y d n h0 h1 b o w hc
  by_cases k2 : k = 2
  · subst k2; exact l10Event_k2 p c bd y d n h0 h1 b o w hc
  by_cases k3 : k = 3
  · subst k3; exact l10Event_k3 p c bd y d n h0 h1 b o w hc
  by_cases k4 : k = 4
  · subst k4; exact l10Event_k4 p c bd y d n h0 h1 b o w hc
  by_cases k5 : k = 5
  · subst k5
    cases hbd : (bd == 1)
    · exact l10Event_k5false p c bd y d n hbd h0 h1 b o w hc
    · exact l10Event_k5true p c bd y d n hbd h0 h1 b o w hc
  have hv : valE n ⟨k, p, c, bd, y, d⟩ = false := by simp [valE, k1, k2, k3, k4, k5]
  exact l10Event_k0 k p c bd y d (by simpa using k1) (by simpa using k2) (by simpa using k3) (by simpa using k4) (by simpa using k5) n hv b o w hc

end Go.Proofs.YtccdnmafakaleaaGreatDoor
