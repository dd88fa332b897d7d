/-
  Texts joined: Ev, Stitch, Valid, Strands.
-/
import Derived.Test.YthhpjgdeehcgjaaGreatRows
import Derived.Test.YthhpjgdeehcgjaaGreatMem
import Derived.Deep.OwnRows
import Derived.Test.YthhpjgdeehcgjaaGreatBase
import Derived.Test.YthhpjgdeehcgjaaGreatWords
/-
  Events as plain data, and what the laws' helpers for events do: toEvent, toEventS, eqEvent, eqEventS, szEventS.
-/
namespace Go.Proofs.YthhpjgdeehcgjaaGreat
set_option linter.unusedVariables false
set_option linter.unusedSimpArgs false
open Go.RowKit

structure Ev where
  k : Int
  p : Int
  c : Int
  b : Int
  y : Int
  d : Int
deriving DecidableEq

abbrev Ev.v (e : Ev) : Value := .agg #[.int .i64 e.k, .int .i64 e.p, .int .i64 e.c, .int .i64 e.b, .int .i64 e.y, .int .i64 e.d]
abbrev Ev.cells (e : Ev) : List Value := [.int .i64 e.k, .int .i64 e.p, .int .i64 e.c, .int .i64 e.b, .int .i64 e.y, .int .i64 e.d]
abbrev RdE := RdS Ev.cells 6
abbrev vE := vS Ev.cells
theorem Ev.len (e : Ev) : e.cells.length = 6 := rfl

theorem info_ev : (Tryz.prog.info? 47).map (fun i => (i.zero, i.size, i.bytes)) = some (some (.agg #[.int .i64 0, .int .i64 0, .int .i64 0, .int .i64 0, .int .i64 0, .int .i64 0]), 6, 48) := by kernel_rfl

theorem eqlIn_ev (d : Nat) (x y : Ev) (W : World) : (Op.equalIn (d + 2) 47 x.v y.v).run Tryz.prog W = .ok (decide (x = y)) W := by
  rw [run_equalIn_struct (P := Tryz.prog) W (d + 1) 47 _ _ (by kernel_rfl) (by kernel_rfl)]
  have hf : (Tryz.prog.fieldsOf 47).toList = [⟨"Kind", 2, 0, false, "", "", 0⟩, ⟨"Place", 2, 1, false, "", "", 8⟩, ⟨"Count", 2, 2, false, "", "", 16⟩, ⟨"Bed", 2, 3, false, "", "", 24⟩, ⟨"Carrier", 2, 4, false, "", "", 32⟩, ⟨"Dir", 2, 5, false, "", "", 40⟩] := by kernel_rfl
  rw [hf]
  have e : decide (x = y) = (x.k == y.k && (x.p == y.p && (x.c == y.c && (x.b == y.b && (x.y == y.y && x.d == y.d))))) := by cases x; cases y; simp [Bool.decide_and]; rfl
  rw [e]
  generalize hk : (x.k == y.k) = bk
  generalize hp : (x.p == y.p) = bp
  generalize hc : (x.c == y.c) = bc
  generalize hb : (x.b == y.b) = bb
  generalize hy : (x.y == y.y) = bd
  generalize hd : (x.d == y.d) = be
  simp [go_sem, Op.eqFields, hk, hp, hc, hb, hy, hd, -beq_iff_eq]
  cases bk <;> cases bp <;> cases bc <;> cases bb <;> cases bd <;> cases be <;> rfl
theorem neq_ev (x y : Ev) (W : World) : (binOp .neq 47 x.v y.v).run Tryz.prog W = .ok (.bool (!decide (x = y))) W := by
  rw [run_neq_struct, eqlIn_ev 9998]
  rfl
end Go.Proofs.YthhpjgdeehcgjaaGreat

/-
  The small tables of stitches: what ColumnsMade, ColumnsTaken, SymbolOf and MirrorStitch of program and reference return.
-/
namespace Go.Proofs.YthhpjgdeehcgjaaGreat
set_option linter.unusedVariables false
set_option linter.unusedSimpArgs false
open Go.RowKit

theorem within_any (n lo hi : Int) (w : World) :
    Calls Tryz.prog 36 #[.int .i64 n, .int .i64 lo, .int .i64 hi] w fun e w' => e = .returned (.bool (decide (lo ≤ n) && decide (n ≤ hi))) ∧ w = w' := by
  go_enter Tryz.func36, Tryz.ntmps36
  go_wp2
  all_goals go_ret
  all_goals exact ⟨ret_bool (by simp [*]; try omega), rfl⟩

end Go.Proofs.YthhpjgdeehcgjaaGreat

/-
  Which events are valid, and how many strands they leave: program and reference.
-/
namespace Go.Proofs.YthhpjgdeehcgjaaGreat
set_option linter.unusedVariables false
set_option linter.unusedSimpArgs false
open Go.RowKit

def bedB (b : Int) : Bool := decide (b = 1 ∨ b = 2)
def yarnB (y : Int) : Bool := decide (1 ≤ y) && decide (y ≤ 4)
def dirB (d : Int) : Bool := decide (d = 1 ∨ d = -1)
def stit3 (b y d : Int) : Bool := bedB b && (yarnB y && dirB d)
abbrev stitB (e : Ev) : Bool := stit3 e.b e.y e.d

theorem isBed_any (b : Int) (w : World) : Calls Tryz.prog 88 #[.int .i64 b] w fun e w' => e = .returned (.bool (bedB b)) ∧ w = w' := by
  go_enter Tryz.func88, Tryz.ntmps88
  go_wp2
  all_goals go_ret
  all_goals exact ⟨ret_bool (by rw [Bool.eq_iff_iff]; simp [bedB]; try simp_all), rfl⟩
theorem isCarrier_any (b : Int) (w : World) : Calls Tryz.prog 49 #[.int .i64 b] w fun e w' => e = .returned (.bool (yarnB b)) ∧ w = w' := by
  go_enter Tryz.func49, Tryz.ntmps49
  go_wp2_with (go_at_call 36; refine (within_any _ _ _ _).mono ?_; rintro e w' ⟨rfl, rfl⟩)
  all_goals go_ret
  all_goals exact ⟨rfl, rfl⟩
theorem isDirection_any (b : Int) (w : World) : Calls Tryz.prog 47 #[.int .i64 b] w fun e w' => e = .returned (.bool (dirB b)) ∧ w = w' := by
  go_enter Tryz.func47, Tryz.ntmps47
  go_wp2
  all_goals go_ret
  all_goals exact ⟨ret_bool (by rw [Bool.eq_iff_iff]; simp [dirB]; try simp_all), rfl⟩
set_option maxHeartbeats 1000000 in
theorem isStitched_any (k p c b y d : Int) (w : World) : Calls Tryz.prog 96 #[.agg #[.int .i64 k, .int .i64 p, .int .i64 c, .int .i64 b, .int .i64 y, .int .i64 d]] w fun x w' => x = .returned (.bool (stit3 b y d)) ∧ Below w.heap.size w w' := by
  unfold stit3
  generalize hb : bedB b = bb
  generalize hy : yarnB y = yb
  generalize hd : dirB d = bd
  have Hb := Lib.hid hb
  have Hy := Lib.hid hy
  have Hd := Lib.hid hd
  clear hb hy hd
  go_enter Tryz.func96, Tryz.ntmps96
  go_wp2_with (first
    | (go_at_call 88; refine (isBed_any _ _).mono ?_; rintro e w' ⟨rfl, rfl⟩; rw [Hb.out])
    | (go_at_call 49; refine (isCarrier_any _ _).mono ?_; rintro e w' ⟨rfl, rfl⟩; rw [Hy.out])
    | (go_at_call 47; refine (isDirection_any _ _).mono ?_; rintro e w' ⟨rfl, rfl⟩; rw [Hd.out]))
  all_goals go_ret
  all_goals exact ⟨ret_bool (by simp_all), (Below.refl _ _).alloc (Nat.le_refl _) _⟩

def valE (n : Int) (e : Ev) : Bool :=
  decide (0 ≤ e.p) && (
    if e.k = 1 then decide (e.p ≤ n - 2) && (decide (e.c = 1 ∨ e.c = -1) && decide (e.b = 0 ∧ e.y = 0 ∧ e.d = 0))
    else if e.k = 2 then (decide (0 ≤ e.c) && decide (e.c ≤ 4)) && (decide (e.p ≤ n - e.c) && stitB e)
    else if e.k = 3 then decide (e.c = 0) && (decide (e.p ≤ n) && stitB e)
    else if e.k = 4 then (decide (1 ≤ e.c) && decide (e.c ≤ 4)) && (decide (e.p ≤ n - e.c) && decide (e.b = 0 ∧ e.y = 0 ∧ e.d = 0))
    else if e.k = 5 then (decide (1 ≤ e.c) && decide (e.c ≤ 4)) && (stitB e && if e.b = 1 then decide (e.p ≤ n - e.c) else decide (e.c ≤ e.p) && decide (e.p ≤ n))
    else false)

def plainB (b y d : Int) : Bool := (b == 0) && ((y == 0) && (d == 0))
theorem plain_cases (b y d : Int) : ((b == 0) = false ∧ Hid (plainB b y d = false)) ∨ ((b == 0) = true ∧ (y == 0) = false ∧ Hid (plainB b y d = false)) ∨ ((b == 0) = true ∧ (y == 0) = true ∧ (d == 0) = false ∧ Hid (plainB b y d = false)) ∨
    ((b == 0) = true ∧ (y == 0) = true ∧ (d == 0) = true ∧ Hid (plainB b y d = true)) := by
  unfold Hid plainB
  cases h1 : (b == 0) <;> cases h2 : (y == 0) <;> cases h3 : (d == 0) <;> simp
theorem plain_dec (b y d : Int) : decide (b = 0 ∧ y = 0 ∧ d = 0) = plainB b y d := by
  rw [Bool.eq_iff_iff]; simp [plainB]

def valK (k n : Int) (e : Ev) : Bool :=
  if k = 1 then decide (e.p ≤ n - 2) && (decide (e.c = 1 ∨ e.c = -1) && plainB e.b e.y e.d)
    else if k = 2 then (decide (0 ≤ e.c) && decide (e.c ≤ 4)) && (decide (e.p ≤ n - e.c) && stitB e)
    else if k = 3 then decide (e.c = 0) && (decide (e.p ≤ n) && stitB e)
    else if k = 4 then (decide (1 ≤ e.c) && decide (e.c ≤ 4)) && (decide (e.p ≤ n - e.c) && plainB e.b e.y e.d)
    else if k = 5 then (decide (1 ≤ e.c) && decide (e.c ≤ 4)) && (stitB e && if e.b = 1 then decide (e.p ≤ n - e.c) else decide (e.c ≤ e.p) && decide (e.p ≤ n))
    else false
theorem valE_K (n : Int) (e : Ev) : valE n e = (decide (0 ≤ e.p) && valK e.k n e) := by unfold valE valK; rw [plain_dec]

set_option maxHeartbeats 4000000 in
set_option maxRecDepth 100000 in
theorem valid_k1 (p c b y d : Int) (n : Int) (h0 : 0 ≤ n) (h1 : n ≤ 12) (w : World) : Calls Tryz.prog 72 #[(⟨1, p, c, b, y, d⟩ : Ev).v, .int .i64 n] w fun x w' => x = .returned (.bool (valE n ⟨1, p, c, b, y, d⟩)) ∧ Below w.heap.size w w' := by
  have hv : valE n ⟨1, p, c, b, y, d⟩ = (decide (0 ≤ p) && (decide (p ≤ n - 2) && (decide (c = 1 ∨ c = -1) && plainB b y d))) := by rw [valE_K]; rfl
  rw [hv]
  clear hv
  generalize hs : stit3 b y d = sb
  have HS := Lib.hid hs
  clear hs
  rcases plain_cases b y d with ⟨p1, HP⟩ | ⟨p1, p2, HP⟩ | ⟨p1, p2, p3, HP⟩ | ⟨p1, p2, p3, HP⟩
  all_goals
    try rw [HP.out]
    go_enter Tryz.func72, Tryz.ntmps72
    go_wp2_with (first
      | (go_at_call 36; refine (within_any _ _ _ _).mono ?_; rintro e w' ⟨rfl, rfl⟩)
      | (go_at_call 96; refine (isStitched_any _ _ _ b y d _).mono ?_; rintro e w' ⟨rfl, hb⟩; rw [HS.out]))
    all_goals go_ret
    all_goals refine ⟨ret_bool ?_, ?_⟩
    try any_goals exact (Below.refl _ _).alloc (Nat.le_refl _) _
    try any_goals exact ((Below.refl _ _).alloc (Nat.le_refl _) _).trans (hb.mono (by simp))
    all_goals (simp_all; try omega)
set_option maxHeartbeats 4000000 in
set_option maxRecDepth 100000 in
theorem valid_k2 (p c b y d : Int) (n : Int) (h0 : 0 ≤ n) (h1 : n ≤ 12) (w : World) : Calls Tryz.prog 72 #[(⟨2, p, c, b, y, d⟩ : Ev).v, .int .i64 n] w fun x w' => x = .returned (.bool (valE n ⟨2, p, c, b, y, d⟩)) ∧ Below w.heap.size w w' := by
  have hv : valE n ⟨2, p, c, b, y, d⟩ = (decide (0 ≤ p) && ((decide (0 ≤ c) && decide (c ≤ 4)) && (decide (p ≤ n - c) && stit3 b y d))) := by rw [valE_K]; rfl
  rw [hv]
  clear hv
  generalize hs : stit3 b y d = sb
  have HS := Lib.hid hs
  clear hs
  rcases plain_cases b y d with ⟨p1, HP⟩ | ⟨p1, p2, HP⟩ | ⟨p1, p2, p3, HP⟩ | ⟨p1, p2, p3, HP⟩
  all_goals
    try rw [HP.out]
    go_enter Tryz.func72, Tryz.ntmps72
    go_wp2_with (first
      | (go_at_call 36; refine (within_any _ _ _ _).mono ?_; rintro e w' ⟨rfl, rfl⟩)
      | (go_at_call 96; refine (isStitched_any _ _ _ b y d _).mono ?_; rintro e w' ⟨rfl, hb⟩; rw [HS.out]))
    all_goals go_ret
    all_goals refine ⟨ret_bool ?_, ?_⟩
    try any_goals exact (Below.refl _ _).alloc (Nat.le_refl _) _
    try any_goals exact ((Below.refl _ _).alloc (Nat.le_refl _) _).trans (hb.mono (by simp))
    all_goals (simp_all; try omega)
set_option maxHeartbeats 4000000 in
set_option maxRecDepth 100000 in
theorem valid_k3 (p c b y d : Int) (n : Int) (h0 : 0 ≤ n) (h1 : n ≤ 12) (w : World) : Calls Tryz.prog 72 #[(⟨3, p, c, b, y, d⟩ : Ev).v, .int .i64 n] w fun x w' => x = .returned (.bool (valE n ⟨3, p, c, b, y, d⟩)) ∧ Below w.heap.size w w' := by
  have hv : valE n ⟨3, p, c, b, y, d⟩ = (decide (0 ≤ p) && (decide (c = 0) && (decide (p ≤ n) && stit3 b y d))) := by rw [valE_K]; rfl
  rw [hv]
  clear hv
  generalize hs : stit3 b y d = sb
  have HS := Lib.hid hs
  clear hs
  rcases plain_cases b y d with ⟨p1, HP⟩ | ⟨p1, p2, HP⟩ | ⟨p1, p2, p3, HP⟩ | ⟨p1, p2, p3, HP⟩
  all_goals
    try rw [HP.out]
    go_enter Tryz.func72, Tryz.ntmps72
    go_wp2_with (first
      | (go_at_call 36; refine (within_any _ _ _ _).mono ?_; rintro e w' ⟨rfl, rfl⟩)
      | (go_at_call 96; refine (isStitched_any _ _ _ b y d _).mono ?_; rintro e w' ⟨rfl, hb⟩; rw [HS.out]))
    all_goals go_ret
    all_goals refine ⟨ret_bool ?_, ?_⟩
    try any_goals exact (Below.refl _ _).alloc (Nat.le_refl _) _
    try any_goals exact ((Below.refl _ _).alloc (Nat.le_refl _) _).trans (hb.mono (by simp))
    all_goals (simp_all; try omega)
set_option maxHeartbeats 4000000 in
set_option maxRecDepth 100000 in
theorem valid_k4 (p c b y d : Int) (n : Int) (h0 : 0 ≤ n) (h1 : n ≤ 12) (w : World) : Calls Tryz.prog 72 #[(⟨4, p, c, b, y, d⟩ : Ev).v, .int .i64 n] w fun x w' => x = .returned (.bool (valE n ⟨4, p, c, b, y, d⟩)) ∧ Below w.heap.size w w' := by
  have hv : valE n ⟨4, p, c, b, y, d⟩ = (decide (0 ≤ p) && ((decide (1 ≤ c) && decide (c ≤ 4)) && (decide (p ≤ n - c) && plainB b y d))) := by rw [valE_K]; rfl
  rw [hv]
  clear hv
  generalize hs : stit3 b y d = sb
  have HS := Lib.hid hs
  clear hs
  rcases plain_cases b y d with ⟨p1, HP⟩ | ⟨p1, p2, HP⟩ | ⟨p1, p2, p3, HP⟩ | ⟨p1, p2, p3, HP⟩
  all_goals
    try rw [HP.out]
    go_enter Tryz.func72, Tryz.ntmps72
    go_wp2_with (first
      | (go_at_call 36; refine (within_any _ _ _ _).mono ?_; rintro e w' ⟨rfl, rfl⟩)
      | (go_at_call 96; refine (isStitched_any _ _ _ b y d _).mono ?_; rintro e w' ⟨rfl, hb⟩; rw [HS.out]))
    all_goals go_ret
    all_goals refine ⟨ret_bool ?_, ?_⟩
    try any_goals exact (Below.refl _ _).alloc (Nat.le_refl _) _
    try any_goals exact ((Below.refl _ _).alloc (Nat.le_refl _) _).trans (hb.mono (by simp))
    all_goals (simp_all; try omega)

set_option maxHeartbeats 4000000 in
set_option maxRecDepth 100000 in
theorem valid_k5 (p c b y d : Int) (n : Int) (h0 : 0 ≤ n) (h1 : n ≤ 12) (w : World) : Calls Tryz.prog 72 #[(⟨5, p, c, b, y, d⟩ : Ev).v, .int .i64 n] w fun x w' => x = .returned (.bool (valE n ⟨5, p, c, b, y, d⟩)) ∧ Below w.heap.size w w' := by
  have hv : valE n ⟨5, p, c, b, y, d⟩ = (decide (0 ≤ p) && ((decide (1 ≤ c) && decide (c ≤ 4)) && (stit3 b y d && if b = 1 then decide (p ≤ n - c) else decide (c ≤ p) && decide (p ≤ n)))) := by rw [valE_K]; rfl
  rw [hv]
  clear hv
  by_cases hb1 : b = 1
  case pos =>
    subst hb1
    rw [if_pos rfl]
    generalize hs : stit3 1 y d = sb
    have HS := Lib.hid hs
    clear hs
    go_enter Tryz.func72, Tryz.ntmps72
    go_wp2_with (first
        | (go_at_call 36; refine (within_any _ _ _ _).mono ?_; rintro e w' ⟨rfl, rfl⟩)
        | (go_at_call 96; refine (isStitched_any _ _ _ 1 y d _).mono ?_; rintro e w' ⟨rfl, hb⟩; have hcb := bcell hb; rw [HS.out]))
    all_goals go_ret
    all_goals refine ⟨ret_bool ?_, ?_⟩
    try any_goals exact (Below.refl _ _).alloc (Nat.le_refl _) _
    try any_goals exact ((Below.refl _ _).alloc (Nat.le_refl _) _).trans (hb.mono (by simp))
    all_goals (simp_all; try omega)
  case neg =>
    rw [if_neg hb1]
    have hbb : (b == 1) = false := by simpa using hb1
    generalize hs : stit3 b y d = sb
    have HS := Lib.hid hs
    clear hs
    rcases plain_cases b y d with ⟨p1, HP⟩ | ⟨p1, p2, HP⟩ | ⟨p1, p2, p3, HP⟩ | ⟨p1, p2, p3, HP⟩
    all_goals
      go_enter Tryz.func72, Tryz.ntmps72
      go_wp2_with (first
        | (go_at_call 36; refine (within_any _ _ _ _).mono ?_; rintro e w' ⟨rfl, rfl⟩)
        | (go_at_call 96; refine (isStitched_any _ _ _ b y d _).mono ?_; rintro e w' ⟨rfl, hb⟩; have hcb := bcell hb; rw [HS.out]))
      all_goals go_ret
      all_goals refine ⟨ret_bool ?_, ?_⟩
      try any_goals exact (Below.refl _ _).alloc (Nat.le_refl _) _
      try any_goals exact ((Below.refl _ _).alloc (Nat.le_refl _) _).trans (hb.mono (by simp))
      all_goals (simp_all; try omega)

set_option maxHeartbeats 4000000 in
set_option maxRecDepth 100000 in
theorem valid_k0 (k p c b y d : Int) (k1 : (k == 1) = false) (k2 : (k == 2) = false) (k3 : (k == 3) = false) (k4 : (k == 4) = false) (k5 : (k == 5) = false) (n : Int) (w : World) : Calls Tryz.prog 72 #[(⟨k, p, c, b, y, d⟩ : Ev).v, .int .i64 n] w fun x w' => x = .returned (.bool false) ∧ Below w.heap.size w w' := by
  rcases plain_cases b y d with ⟨p1, HP⟩ | ⟨p1, p2, HP⟩ | ⟨p1, p2, p3, HP⟩ | ⟨p1, p2, p3, HP⟩
  all_goals
    go_enter Tryz.func72, Tryz.ntmps72
    go_wp2
    all_goals go_ret
    all_goals exact ⟨rfl, (Below.refl _ _).alloc (Nat.le_refl _) _⟩

theorem valid_any (e : Ev) (n : Int) (h0 : 0 ≤ n) (h1 : n ≤ 12) (w : World) : Calls Tryz.prog 72 #[e.v, .int .i64 n] w fun x w' => x = .returned (.bool (valE n e)) ∧ Below w.heap.size w w' := by
  obtain ⟨k, p, c, b, y, d⟩ := e
  by_cases k1 : k = 1
  · subst k1; exact valid_k1 p c b y d n h0 h1 w
  by_cases k2 : k = 2
  · subst k2; exact valid_k2 p c b y d n h0 h1 w
  by_cases k3 : k = 3
  · subst k3; exact valid_k3 p c b y d n h0 h1 w
  by_cases k4 : k = 4
  · subst k4; exact valid_k4 p c b y d n h0 h1 w
  by_cases k5 : k = 5
  · subst k5; exact valid_k5 p c b y d n h0 h1 w
  have hv : valE n ⟨k, p, c, b, y, d⟩ = false := by simp [valE, k1, k2, k3, k4, k5]
  rw [hv]
  exact valid_k0 k p c b y d (by simpa using k1) (by simpa using k2) (by simpa using k3) (by simpa using k4) (by simpa using k5) n w

def aftE (n : Int) (e : Ev) : Int := if e.k = 2 then n - e.c + 1 else if e.k = 3 then n + 1 else if e.k = 5 then n + 1 else if e.k = 4 then n - e.c else n

end Go.Proofs.YthhpjgdeehcgjaaGreat

/-
  How many strands events leave: strandsAfter, ValidEvents and StrandsOf of program and reference.
-/
namespace Go.Proofs.YthhpjgdeehcgjaaGreat
set_option linter.unusedVariables false
set_option linter.unusedSimpArgs false
open Go.RowKit

theorem aft_bounds {n : Int} {e : Ev} (h0 : 0 ≤ n) (h1 : n ≤ 12) (h : valE n e = true) : 0 ≤ aftE n e ∧ aftE n e ≤ 13 := by
  rw [valE_K] at h
  unfold valK at h
  unfold aftE
  by_cases k2 : e.k = 2
  · simp [k2] at h ⊢; omega
  by_cases k3 : e.k = 3
  · simp [k3] at h ⊢; omega
  by_cases k4 : e.k = 4
  · simp [k4] at h ⊢; omega
  by_cases k5 : e.k = 5
  · simp [k5] at h ⊢; omega
  simp [k2, k3, k4, k5]; omega

theorem ret_int_of {k : IntKind} {a b : Int} (h : a = b) : Ending.returned (.int k a) = .returned (.int k b) := by rw [h]

set_option maxHeartbeats 2000000 in
theorem after_any (e : Ev) (n : Int) (h0 : 0 ≤ n) (h1 : n ≤ 12) (hv : valE n e = true) (w : World) : Calls Tryz.prog 40 #[e.v, .int .i64 n] w fun x w' => x = .returned (.int .i64 (aftE n e)) ∧ Below w.heap.size w w' := by
  have hc : e.k = 2 ∨ e.k = 4 → 0 ≤ e.c ∧ e.c ≤ 4 := by
    intro hk
    rw [valE_K] at hv
    unfold valK at hv
    rcases hk with hk | hk <;> simp [hk] at hv <;> omega
  clear hv
  obtain ⟨k, p, c, b, y, d⟩ := e
  simp only at hc
  by_cases k2 : k = 2
  · subst k2
    obtain ⟨c0, c1⟩ := hc (.inl rfl)
    clear hc
    go_enter Tryz.func40, Tryz.ntmps40
    go_wp2
    go_ret
    exact ⟨ret_int_of (by simp [aftE]), (Below.refl _ _).alloc (Nat.le_refl _) _⟩
  by_cases k4 : k = 4
  · subst k4
    obtain ⟨c0, c1⟩ := hc (.inr rfl)
    clear hc k2
    go_enter Tryz.func40, Tryz.ntmps40
    go_wp2
    go_ret
    exact ⟨ret_int_of (by simp [aftE]), (Below.refl _ _).alloc (Nat.le_refl _) _⟩
  have e2 : (k == 2) = false := by simpa using k2
  have e4 : (k == 4) = false := by simpa using k4
  clear hc k2 k4
  go_enter Tryz.func40, Tryz.ntmps40
  go_wp2
  all_goals go_ret
  all_goals exact ⟨ret_int_of (by simp_all [aftE]), (Below.refl _ _).alloc (Nat.le_refl _) _⟩

def cntE : Int → List Ev → Option Int
  | n, [] => some n
  | n, e :: es => if valE n e = true ∧ aftE n e ≤ 12 then cntE (aftE n e) es else none

def cntR (r : Option Int) (e : Ending) : Prop := e = .returned (.tuple #[.int .i64 (r.getD 0), .bool r.isSome])

theorem drop_cnt_no {l : List Ev} {k : Nat} {x : Ev} {n m : Int} (h : cntE n l = cntE m (l.drop k)) (hx : l[k]? = some x) (hv : ¬ (valE m x = true ∧ aftE m x ≤ 12)) : cntE n l = none := by
  rw [h, drop_of_get hx, cntE, if_neg hv]
theorem drop_cnt_yes {l : List Ev} {k : Nat} {x : Ev} {n m : Int} (h : cntE n l = cntE m (l.drop k)) (hx : l[k]? = some x) (hv : valE m x = true) (h2 : aftE m x ≤ 12) : cntE n l = cntE (aftE m x) (l.drop (k + 1)) := by
  rw [h, drop_of_get hx, cntE, if_pos ⟨hv, h2⟩]

set_option maxHeartbeats 4000000 in
set_option maxRecDepth 100000 in
theorem strandsAfter_any (v : Value) (l : List Ev) (n0 : Int) (h0 : 0 ≤ n0) (h1 : n0 ≤ 12) (w : World) (B : Nat) (hl : RdE w B v l) (hB : B ≤ w.heap.size) :
    Calls Tryz.prog 33 #[.int .i64 n0, v] w fun e w' => cntR (cntE n0 l) e ∧ Below w.heap.size w w' := by
  obtain ⟨A, n, c, rfl, hln, hl, gl⟩ := hl
  go_enter Tryz.func33, Tryz.ntmps33
  go_wp2
  go_loopw [0, 10] (fun t i wr => ∃ (k : Nat) (m : Int), k ≤ n ∧ i = .int .i64 k ∧ t = .int .i64 m ∧ 0 ≤ m ∧ m ≤ 12 ∧ Hid (cntE n0 l = cntE m (l.drop k)) ∧ Below w.heap.size w wr) (fun _ i _ => n - (intOf i).toNat)
  case atStart => exact ⟨0, n0, Nat.zero_le _, rfl, rfl, h0, h1, rfl, Below.refl _ _⟩
  case round =>
    rename_i wr
    obtain ⟨k, m, hk, rfl, rfl, m0, m1, hd, hb⟩ := hrel
    clear h0 h1
    by_cases hlt : k < n
    · obtain ⟨b, off, x, rfl, hbb, hlk, hc⟩ := gl k hlt
      obtain ⟨c0, c1, c2, c3, c4, c5⟩ := (hc.below hb (Nat.lt_of_lt_of_le hbb hB)).six
      have HB := Lib.hid hb
      have Hl := Lib.hid hlk
      clear hc hb hlk gl
      rcases hv : valE m x
      · have HV := Lib.hid hv
        clear hv
        go_wp2_with (go_at_call 72; refine (valid_any x _ m0 m1 _).mono ?_; rintro e w1 ⟨rfl, hb1⟩; rw [HV.out])
        go_ret2
        exact ⟨by rw [drop_cnt_no hd.out Hl.out (by rw [HV.out]; simp)]; rfl, HB.out.trans (((Below.refl _ _).alloc (Nat.le_refl _) _).trans (hb1.mono (by simp)) |>.mono HB.out.size)⟩
      · have HV := Lib.hid hv
        clear hv
        obtain ⟨a0, a1⟩ := aft_bounds m0 m1 HV.out
        by_cases ha : aftE m x ≤ 12
        · have HD := Lib.hid (drop_cnt_yes hd.out Hl.out HV.out ha)
          go_wp2_with (first
            | (go_at_call 72; refine (valid_any x _ m0 m1 _).mono ?_; rintro e w1 ⟨rfl, hb1⟩; have hc1 := bcell hb1; rw [HV.out])
            | (go_at_call 40; refine (after_any x _ m0 m1 HV.out _).mono ?_; rintro e w2 ⟨rfl, hb2⟩))
          exact ⟨⟨k + 1, _, by omega, by go_num, rfl, a0, ha, HD.out, HB.out.trans ((((Below.refl _ _).alloc (Nat.le_refl _) _).trans (hb1.mono (by simp))).trans (hb2.mono (by have := hb1.size; simp at this; omega)) |>.mono HB.out.size)⟩, by simp [intOf]; omega⟩
        · have HD := Lib.hid (drop_cnt_no hd.out Hl.out (fun h => ha h.2))
          go_wp2_with (first
            | (go_at_call 72; refine (valid_any x _ m0 m1 _).mono ?_; rintro e w1 ⟨rfl, hb1⟩; have hc1 := bcell hb1; rw [HV.out])
            | (go_at_call 40; refine (after_any x _ m0 m1 HV.out _).mono ?_; rintro e w2 ⟨rfl, hb2⟩))
          go_ret2
          exact ⟨by rw [HD.out]; rfl, HB.out.trans ((((Below.refl _ _).alloc (Nat.le_refl _) _).trans (hb1.mono (by simp))).trans (hb2.mono (by have := hb1.size; simp at this; omega)) |>.mono HB.out.size)⟩
    · have HB := Lib.hid hb
      clear hb gl
      go_wp2
      go_ret2
      exact ⟨by rw [hd.out, List.drop_of_length_le (by have := hl.out; omega)]; rfl, HB.out⟩

end Go.Proofs.YthhpjgdeehcgjaaGreat
