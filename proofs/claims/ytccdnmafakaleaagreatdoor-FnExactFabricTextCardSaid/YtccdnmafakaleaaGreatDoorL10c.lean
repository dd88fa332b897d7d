/-
  The reference's l10Event at tucks.
-/
import Derived.Test.YtccdnmafakaleaaGreatDoorStrandsS
namespace Go.Proofs.YtccdnmafakaleaaGreatDoor
set_option linter.unusedVariables false
set_option linter.unusedSimpArgs false
open Go.RowKit

/- l10Event at kind 3: (decide (c = 0) && (decide (p ≤ n) && stit3 bd y d)) its validity behind '0 ≤ p' · rcases zero_cases c n h0 h1 with ⟨q1, s1⟩ | ⟨q1, s1⟩ the cases of the count (a disjunction's proof and pattern) · fail the arm at l00In -/
set_option maxHeartbeats 8000000 in
set_option maxRecDepth 100000 in
theorem l10Event_k3 (p c bd y d : Int) (n : Int) (h0 : 0 ≤ n) (h1 : n ≤ 12) (b o : Nat) (w : World) (hc : CellsAt w b o (⟨3, p, c, bd, y, d⟩ : Ev).cells) : Calls Tryz.prog 20 #[.pointer (some ⟨b, o, none⟩), .int .i64 n] w (EvRes n ⟨3, p, c, bd, y, d⟩ w) := by
  obtain ⟨c0, c1, c2, c3, c4, c5⟩ := hc.six
  obtain ⟨e0, e1, e2, e3, e4, e5⟩ := hc.grow6
  clear hc
  have HV := Lib.hid (show valE n ⟨3, p, c, bd, y, d⟩ = (decide (0 ≤ p) && (decide (c = 0) && (decide (p ≤ n) && stit3 bd y d))) by rw [valE_K]; rfl)
  by_cases hp : 0 ≤ p ∧ p ≤ n
  case neg =>
    rcases sp_cases bd y d with ⟨p1, Hb, HS, HP⟩ | ⟨p1, Hb, Hy, HS, HP⟩ | ⟨p1, Hb, Hy, Hd, HS, HP⟩ | ⟨p1, Hb, Hy, Hd, HS, HP⟩ | ⟨p1, Hb, p2, HS, HP⟩ | ⟨p1, Hb, p2, p3, HS, HP⟩ | ⟨p1, Hb, p2, p3, HS, HP⟩
    all_goals
      go_enter Tryz.func20, Tryz.ntmps20
      go_wp2_with (first
        | (go_at_call 31; refine (l01Bed_any _ _).mono ?_; rintro e w' ⟨rfl, rfl⟩; rw [Hb.out])
        | (go_at_call 32; refine (l07Yarn_any _ _).mono ?_; rintro e w' ⟨rfl, rfl⟩; rw [Hy.out])
        | (go_at_call 33; refine (l07Dir_any _ _).mono ?_; rintro e w' ⟨rfl, rfl⟩; rw [Hd.out]))
      all_goals first
        | (go_ret2; exact evres_no (evres_out ⟨h0, h1⟩ hp) (Below.refl _ _))
        | (exfalso; omega)
  case pos =>
    obtain ⟨hp0, hpn⟩ := hp
    rcases zero_cases c n h0 h1 with ⟨q1, s1⟩ | ⟨q1, s1⟩
    all_goals
      rcases sp_cases bd y d with ⟨p1, Hb, HS, HP⟩ | ⟨p1, Hb, Hy, HS, HP⟩ | ⟨p1, Hb, Hy, Hd, HS, HP⟩ | ⟨p1, Hb, Hy, Hd, HS, HP⟩ | ⟨p1, Hb, p2, HS, HP⟩ | ⟨p1, Hb, p2, p3, HS, HP⟩ | ⟨p1, Hb, p2, p3, HS, HP⟩
    all_goals
      go_enter Tryz.func20, Tryz.ntmps20
      go_wp2_with (first
        | (go_at_call 31; refine (l01Bed_any _ _).mono ?_; rintro e w' ⟨rfl, rfl⟩; rw [Hb.out])
        | (go_at_call 32; refine (l07Yarn_any _ _).mono ?_; rintro e w' ⟨rfl, rfl⟩; rw [Hy.out])
        | (go_at_call 33; refine (l07Dir_any _ _).mono ?_; rintro e w' ⟨rfl, rfl⟩; rw [Hd.out])
        | (go_at_call 34; refine (l00In_any _ _ _ _).mono ?_; rintro e w' ⟨rfl, rfl⟩; rw [HR.out]))
      refine wp_region_grow (by kernel_rfl) (by kernel_rfl) ?_
      repeat (go_big_quiet_step (fail))
      refine wpQuiet_nil ?_
      intro w1 hb1
      go_wp2
      go_ret2
      refine evresB ?_ ?_ hb1
      · rw [HV.out]; (first | rw [HS.out] | skip); (first | rw [HP.out] | skip); simp_all; try omega
      · intro hh; rw [HV.out] at hh; simp [aftE] at hh ⊢; try omega

end Go.Proofs.YtccdnmafakaleaaGreatDoor
