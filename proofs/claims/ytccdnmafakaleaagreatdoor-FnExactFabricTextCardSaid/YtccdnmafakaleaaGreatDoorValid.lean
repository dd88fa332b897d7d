/-
  Which events are valid, and how many strands they leave: program and reference.
-/
import Derived.Test.YtccdnmafakaleaaGreatDoorEv
import Derived.Test.YtccdnmafakaleaaGreatDoorStitch
namespace Go.Proofs.YtccdnmafakaleaaGreatDoor
set_option linter.unusedVariables false
set_option linter.unusedSimpArgs false
open Go.RowKit

def bedB (b : Int) : Bool := decide (b = 1 ∨ b = 2)
def yarnB (y : Int) : Bool := decide (1 ≤ y) && decide (y ≤ 4)
def dirB (d : Int) : Bool := decide (d = 1 ∨ d = -1)
def stit3 (b y d : Int) : Bool := bedB b && (yarnB y && dirB d)
abbrev stitB (e : Ev) : Bool := stit3 e.b e.y e.d

theorem isBed_any (b : Int) (w : World) : Calls Tryz.prog 80 #[.int .i64 b] w fun e w' => e = .returned (.bool (bedB b)) ∧ w = w' := by
  go_enter Tryz.func80, Tryz.ntmps80
  go_wp2
  all_goals go_ret
  all_goals exact ⟨ret_bool (by rw [Bool.eq_iff_iff]; simp [bedB]; try simp_all), rfl⟩
theorem isCarrier_any (b : Int) (w : World) : Calls Tryz.prog 81 #[.int .i64 b] w fun e w' => e = .returned (.bool (yarnB b)) ∧ w = w' := by
  go_enter Tryz.func81, Tryz.ntmps81
  go_wp2_with (go_at_call 60; refine (within_any _ _ _ _).mono ?_; rintro e w' ⟨rfl, rfl⟩)
  all_goals go_ret
  all_goals exact ⟨rfl, rfl⟩
theorem isDirection_any (b : Int) (w : World) : Calls Tryz.prog 82 #[.int .i64 b] w fun e w' => e = .returned (.bool (dirB b)) ∧ w = w' := by
  go_enter Tryz.func82, Tryz.ntmps82
  go_wp2
  all_goals go_ret
  all_goals exact ⟨ret_bool (by rw [Bool.eq_iff_iff]; simp [dirB]; try simp_all), rfl⟩
theorem l01Bed_any (b : Int) (w : World) : Calls Tryz.prog 31 #[.int .i64 b] w fun e w' => e = .returned (.bool (bedB b)) ∧ w = w' := by
  go_enter Tryz.func31, Tryz.ntmps31
  go_wp2_with (go_at_call 34; refine (l00In_any _ _ _ _).mono ?_; rintro e w' ⟨rfl, rfl⟩)
  all_goals go_ret
  all_goals exact ⟨ret_bool (by rw [Bool.eq_iff_iff]; simp [bedB]; omega), rfl⟩
theorem l07Yarn_any (b : Int) (w : World) : Calls Tryz.prog 32 #[.int .i64 b] w fun e w' => e = .returned (.bool (yarnB b)) ∧ w = w' := by
  go_enter Tryz.func32, Tryz.ntmps32
  go_wp2_with (go_at_call 34; refine (l00In_any _ _ _ _).mono ?_; rintro e w' ⟨rfl, rfl⟩)
  all_goals go_ret
  all_goals exact ⟨rfl, rfl⟩
theorem l07Dir_any (b : Int) (w : World) : Calls Tryz.prog 33 #[.int .i64 b] w fun e w' => e = .returned (.bool (dirB b)) ∧ w = w' := by
  go_enter Tryz.func33, Tryz.ntmps33
  go_wp2
  all_goals go_ret
  all_goals exact ⟨ret_bool (by rw [Bool.eq_iff_iff]; simp [dirB]; try simp_all), rfl⟩

set_option maxHeartbeats 1000000 in
theorem isStitched_any (k p c b y d : Int) (w : World) : Calls Tryz.prog 61 #[.agg #[.int .i64 k, .int .i64 p, .int .i64 c, .int .i64 b, .int .i64 y, .int .i64 d]] w fun x w' => x = .returned (.bool (stit3 b y d)) ∧ Below w.heap.size w w' := by
  unfold stit3
  generalize hb : bedB b = bb
  generalize hy : yarnB y = yb
  generalize hd : dirB d = bd
  have Hb := Lib.hid hb
  have Hy := Lib.hid hy
  have Hd := Lib.hid hd
  clear hb hy hd
  go_enter Tryz.func61, Tryz.ntmps61
  go_wp2_with (first
    | (go_at_call 80; refine (isBed_any _ _).mono ?_; rintro e w' ⟨rfl, rfl⟩; rw [Hb.out])
    | (go_at_call 81; refine (isCarrier_any _ _).mono ?_; rintro e w' ⟨rfl, rfl⟩; rw [Hy.out])
    | (go_at_call 82; refine (isDirection_any _ _).mono ?_; rintro e w' ⟨rfl, rfl⟩; rw [Hd.out]))
  all_goals go_ret
  all_goals exact ⟨ret_bool (by simp_all), (Below.refl _ _).alloc (Nat.le_refl _) _⟩

def valE (n : Int) (e : Ev) : Bool :=
  decide (0 ≤ e.p) && (
    if e.k = 1 then decide (e.p ≤ n - 2) && (decide (e.c = 1 ∨ e.c = -1) && decide (e.b = 0 ∧ e.y = 0 ∧ e.d = 0))
    else if e.k = 2 then (decide (0 ≤ e.c) && decide (e.c ≤ 4)) && (decide (e.p ≤ n - e.c) && stitB e)
    else if e.k = 3 then decide (e.c = 0) && (decide (e.p ≤ n) && stitB e)
    else if e.k = 4 then (decide (1 ≤ e.c) && decide (e.c ≤ 4)) && (decide (e.p ≤ n - e.c) && decide (e.b = 0 ∧ e.y = 0 ∧ e.d = 0))
    else if e.k = 5 then (decide (1 ≤ e.c) && decide (e.c ≤ 4)) && (stitB e && if e.b = 1 then decide (e.p ≤ n - e.c) else decide (e.c ≤ e.p) && decide (e.p ≤ n))
    else false)

def plainB (b y d : Int) : Bool := (b == 0) && ((y == 0) && (d == 0))
theorem plain_cases (b y d : Int) : ((b == 0) = false ∧ Hid (plainB b y d = false)) ∨ ((b == 0) = true ∧ (y == 0) = false ∧ Hid (plainB b y d = false)) ∨ ((b == 0) = true ∧ (y == 0) = true ∧ (d == 0) = false ∧ Hid (plainB b y d = false)) ∨
    ((b == 0) = true ∧ (y == 0) = true ∧ (d == 0) = true ∧ Hid (plainB b y d = true)) := by
  unfold Hid plainB
  cases h1 : (b == 0) <;> cases h2 : (y == 0) <;> cases h3 : (d == 0) <;> simp
theorem plain_dec (b y d : Int) : decide (b = 0 ∧ y = 0 ∧ d = 0) = plainB b y d := by
  rw [Bool.eq_iff_iff]; simp [plainB]

def valK (k n : Int) (e : Ev) : Bool :=
  if k = 1 then decide (e.p ≤ n - 2) && (decide (e.c = 1 ∨ e.c = -1) && plainB e.b e.y e.d)
    else if k = 2 then (decide (0 ≤ e.c) && decide (e.c ≤ 4)) && (decide (e.p ≤ n - e.c) && stitB e)
    else if k = 3 then decide (e.c = 0) && (decide (e.p ≤ n) && stitB e)
    else if k = 4 then (decide (1 ≤ e.c) && decide (e.c ≤ 4)) && (decide (e.p ≤ n - e.c) && plainB e.b e.y e.d)
    else if k = 5 then (decide (1 ≤ e.c) && decide (e.c ≤ 4)) && (stitB e && if e.b = 1 then decide (e.p ≤ n - e.c) else decide (e.c ≤ e.p) && decide (e.p ≤ n))
    else false
theorem valE_K (n : Int) (e : Ev) : valE n e = (decide (0 ≤ e.p) && valK e.k n e) := by unfold valE valK; rw [plain_dec]

set_option maxHeartbeats 4000000 in
set_option maxRecDepth 100000 in
theorem valid_k1 (p c b y d : Int) (n : Int) (h0 : 0 ≤ n) (h1 : n ≤ 12) (w : World) : Calls Tryz.prog 51 #[(⟨1, p, c, b, y, d⟩ : Ev).v, .int .i64 n] w fun x w' => x = .returned (.bool (valE n ⟨1, p, c, b, y, d⟩)) ∧ Below w.heap.size w w' := by
  have hv : valE n ⟨1, p, c, b, y, d⟩ = (decide (0 ≤ p) && (decide (p ≤ n - 2) && (decide (c = 1 ∨ c = -1) && plainB b y d))) := by rw [valE_K]; rfl
  rw [hv]
  clear hv
  generalize hs : stit3 b y d = sb
  have HS := Lib.hid hs
  clear hs
  rcases plain_cases b y d with ⟨p1, HP⟩ | ⟨p1, p2, HP⟩ | ⟨p1, p2, p3, HP⟩ | ⟨p1, p2, p3, HP⟩
  all_goals
    try rw [HP.out]
    go_enter Tryz.func51, Tryz.ntmps51
    go_wp2_with (first
      | (go_at_call 60; refine (within_any _ _ _ _).mono ?_; rintro e w' ⟨rfl, rfl⟩)
      | (go_at_call 61; refine (isStitched_any _ _ _ b y d _).mono ?_; rintro e w' ⟨rfl, hb⟩; rw [HS.out]))
    all_goals go_ret
    all_goals refine ⟨ret_bool ?_, ?_⟩
    try any_goals exact (Below.refl _ _).alloc (Nat.le_refl _) _
    try any_goals exact ((Below.refl _ _).alloc (Nat.le_refl _) _).trans (hb.mono (by simp))
    all_goals (simp_all; try omega)
set_option maxHeartbeats 4000000 in
set_option maxRecDepth 100000 in
theorem valid_k2 (p c b y d : Int) (n : Int) (h0 : 0 ≤ n) (h1 : n ≤ 12) (w : World) : Calls Tryz.prog 51 #[(⟨2, p, c, b, y, d⟩ : Ev).v, .int .i64 n] w fun x w' => x = .returned (.bool (valE n ⟨2, p, c, b, y, d⟩)) ∧ Below w.heap.size w w' := by
  have hv : valE n ⟨2, p, c, b, y, d⟩ = (decide (0 ≤ p) && ((decide (0 ≤ c) && decide (c ≤ 4)) && (decide (p ≤ n - c) && stit3 b y d))) := by rw [valE_K]; rfl
  rw [hv]
  clear hv
  generalize hs : stit3 b y d = sb
  have HS := Lib.hid hs
  clear hs
  rcases plain_cases b y d with ⟨p1, HP⟩ | ⟨p1, p2, HP⟩ | ⟨p1, p2, p3, HP⟩ | ⟨p1, p2, p3, HP⟩
  all_goals
    try rw [HP.out]
    go_enter Tryz.func51, Tryz.ntmps51
    go_wp2_with (first
      | (go_at_call 60; refine (within_any _ _ _ _).mono ?_; rintro e w' ⟨rfl, rfl⟩)
      | (go_at_call 61; refine (isStitched_any _ _ _ b y d _).mono ?_; rintro e w' ⟨rfl, hb⟩; rw [HS.out]))
    all_goals go_ret
    all_goals refine ⟨ret_bool ?_, ?_⟩
    try any_goals exact (Below.refl _ _).alloc (Nat.le_refl _) _
    try any_goals exact ((Below.refl _ _).alloc (Nat.le_refl _) _).trans (hb.mono (by simp))
    all_goals (simp_all; try omega)
set_option maxHeartbeats 4000000 in
set_option maxRecDepth 100000 in
theorem valid_k3 (p c b y d : Int) (n : Int) (h0 : 0 ≤ n) (h1 : n ≤ 12) (w : World) : Calls Tryz.prog 51 #[(⟨3, p, c, b, y, d⟩ : Ev).v, .int .i64 n] w fun x w' => x = .returned (.bool (valE n ⟨3, p, c, b, y, d⟩)) ∧ Below w.heap.size w w' := by
  have hv : valE n ⟨3, p, c, b, y, d⟩ = (decide (0 ≤ p) && (decide (c = 0) && (decide (p ≤ n) && stit3 b y d))) := by rw [valE_K]; rfl
  rw [hv]
  clear hv
  generalize hs : stit3 b y d = sb
  have HS := Lib.hid hs
  clear hs
  rcases plain_cases b y d with ⟨p1, HP⟩ | ⟨p1, p2, HP⟩ | ⟨p1, p2, p3, HP⟩ | ⟨p1, p2, p3, HP⟩
  all_goals
    try rw [HP.out]
    go_enter Tryz.func51, Tryz.ntmps51
    go_wp2_with (first
      | (go_at_call 60; refine (within_any _ _ _ _).mono ?_; rintro e w' ⟨rfl, rfl⟩)
      | (go_at_call 61; refine (isStitched_any _ _ _ b y d _).mono ?_; rintro e w' ⟨rfl, hb⟩; rw [HS.out]))
    all_goals go_ret
    all_goals refine ⟨ret_bool ?_, ?_⟩
    try any_goals exact (Below.refl _ _).alloc (Nat.le_refl _) _
    try any_goals exact ((Below.refl _ _).alloc (Nat.le_refl _) _).trans (hb.mono (by simp))
    all_goals (simp_all; try omega)
set_option maxHeartbeats 4000000 in
set_option maxRecDepth 100000 in
theorem valid_k4 (p c b y d : Int) (n : Int) (h0 : 0 ≤ n) (h1 : n ≤ 12) (w : World) : Calls Tryz.prog 51 #[(⟨4, p, c, b, y, d⟩ : Ev).v, .int .i64 n] w fun x w' => x = .returned (.bool (valE n ⟨4, p, c, b, y, d⟩)) ∧ Below w.heap.size w w' := by
  have hv : valE n ⟨4, p, c, b, y, d⟩ = (decide (0 ≤ p) && ((decide (1 ≤ c) && decide (c ≤ 4)) && (decide (p ≤ n - c) && plainB b y d))) := by rw [valE_K]; rfl
  rw [hv]
  clear hv
  generalize hs : stit3 b y d = sb
  have HS := Lib.hid hs
  clear hs
  rcases plain_cases b y d with ⟨p1, HP⟩ | ⟨p1, p2, HP⟩ | ⟨p1, p2, p3, HP⟩ | ⟨p1, p2, p3, HP⟩
  all_goals
    try rw [HP.out]
    go_enter Tryz.func51, Tryz.ntmps51
    go_wp2_with (first
      | (go_at_call 60; refine (within_any _ _ _ _).mono ?_; rintro e w' ⟨rfl, rfl⟩)
      | (go_at_call 61; refine (isStitched_any _ _ _ b y d _).mono ?_; rintro e w' ⟨rfl, hb⟩; rw [HS.out]))
    all_goals go_ret
    all_goals refine ⟨ret_bool ?_, ?_⟩
    try any_goals exact (Below.refl _ _).alloc (Nat.le_refl _) _
    try any_goals exact ((Below.refl _ _).alloc (Nat.le_refl _) _).trans (hb.mono (by simp))
    all_goals (simp_all; try omega)

set_option maxHeartbeats 4000000 in
set_option maxRecDepth 100000 in
theorem valid_k5 (p c b y d : Int) (n : Int) (h0 : 0 ≤ n) (h1 : n ≤ 12) (w : World) : Calls Tryz.prog 51 #[(⟨5, p, c, b, y, d⟩ : Ev).v, .int .i64 n] w fun x w' => x = .returned (.bool (valE n ⟨5, p, c, b, y, d⟩)) ∧ Below w.heap.size w w' := by
  have hv : valE n ⟨5, p, c, b, y, d⟩ = (decide (0 ≤ p) && ((decide (1 ≤ c) && decide (c ≤ 4)) && (stit3 b y d && if b = 1 then decide (p ≤ n - c) else decide (c ≤ p) && decide (p ≤ n)))) := by rw [valE_K]; rfl
  rw [hv]
  clear hv
  by_cases hb1 : b = 1
  case pos =>
    subst hb1
    rw [if_pos rfl]
    generalize hs : stit3 1 y d = sb
    have HS := Lib.hid hs
    clear hs
    go_enter Tryz.func51, Tryz.ntmps51
    go_wp2_with (first
        | (go_at_call 60; refine (within_any _ _ _ _).mono ?_; rintro e w' ⟨rfl, rfl⟩)
        | (go_at_call 61; refine (isStitched_any _ _ _ 1 y d _).mono ?_; rintro e w' ⟨rfl, hb⟩; have hcb := bcell hb; rw [HS.out]))
    all_goals go_ret
    all_goals refine ⟨ret_bool ?_, ?_⟩
    try any_goals exact (Below.refl _ _).alloc (Nat.le_refl _) _
    try any_goals exact ((Below.refl _ _).alloc (Nat.le_refl _) _).trans (hb.mono (by simp))
    all_goals (simp_all; try omega)
  case neg =>
    rw [if_neg hb1]
    have hbb : (b == 1) = false := by simpa using hb1
    generalize hs : stit3 b y d = sb
    have HS := Lib.hid hs
    clear hs
    rcases plain_cases b y d with ⟨p1, HP⟩ | ⟨p1, p2, HP⟩ | ⟨p1, p2, p3, HP⟩ | ⟨p1, p2, p3, HP⟩
    all_goals
      go_enter Tryz.func51, Tryz.ntmps51
      go_wp2_with (first
        | (go_at_call 60; refine (within_any _ _ _ _).mono ?_; rintro e w' ⟨rfl, rfl⟩)
        | (go_at_call 61; refine (isStitched_any _ _ _ b y d _).mono ?_; rintro e w' ⟨rfl, hb⟩; have hcb := bcell hb; rw [HS.out]))
      all_goals go_ret
      all_goals refine ⟨ret_bool ?_, ?_⟩
      try any_goals exact (Below.refl _ _).alloc (Nat.le_refl _) _
      try any_goals exact ((Below.refl _ _).alloc (Nat.le_refl _) _).trans (hb.mono (by simp))
      all_goals (simp_all; try omega)

set_option maxHeartbeats 4000000 in
set_option maxRecDepth 100000 in
theorem valid_k0 (k p c b y d : Int) (k1 : (k == 1) = false) (k2 : (k == 2) = false) (k3 : (k == 3) = false) (k4 : (k == 4) = false) (k5 : (k == 5) = false) (n : Int) (w : World) : Calls Tryz.prog 51 #[(⟨k, p, c, b, y, d⟩ : Ev).v, .int .i64 n] w fun x w' => x = .returned (.bool false) ∧ Below w.heap.size w w' := by
  rcases plain_cases b y d with ⟨p1, HP⟩ | ⟨p1, p2, HP⟩ | ⟨p1, p2, p3, HP⟩ | ⟨p1, p2, p3, HP⟩
  all_goals
    go_enter Tryz.func51, Tryz.ntmps51
    go_wp2
    all_goals go_ret
    all_goals exact ⟨rfl, (Below.refl _ _).alloc (Nat.le_refl _) _⟩

theorem valid_any (e : Ev) (n : Int) (h0 : 0 ≤ n) (h1 : n ≤ 12) (w : World) : Calls Tryz.prog 51 #[e.v, .int .i64 n] w fun x w' => x = .returned (.bool (valE n e)) ∧ Below w.heap.size w w' := by
  obtain ⟨k, p, c, b, y, d⟩ := e
  by_cases k1 : k = 1
  · subst k1; exact valid_k1 p c b y d n h0 h1 w
  by_cases k2 : k = 2
  · subst k2; exact valid_k2 p c b y d n h0 h1 w
  by_cases k3 : k = 3
  · subst k3; exact valid_k3 p c b y d n h0 h1 w
  by_cases k4 : k = 4
  · subst k4; exact valid_k4 p c b y d n h0 h1 w
  by_cases k5 : k = 5
  · subst k5; exact valid_k5 p c b y d n h0 h1 w
  have hv : valE n ⟨k, p, c, b, y, d⟩ = false := by simp [valE, k1, k2, k3, k4, k5]
  rw [hv]
  exact valid_k0 k p c b y d (by simpa using k1) (by simpa using k2) (by simpa using k3) (by simpa using k4) (by simpa using k5) n w

def aftE (n : Int) (e : Ev) : Int := if e.k = 2 then n - e.c + 1 else if e.k = 3 then n + 1 else if e.k = 5 then n + 1 else if e.k = 4 then n - e.c else n

end Go.Proofs.YtccdnmafakaleaaGreatDoor
