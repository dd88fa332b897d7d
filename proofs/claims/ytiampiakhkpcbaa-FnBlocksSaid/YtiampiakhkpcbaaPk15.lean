/-
  Texts joined: Mirror, MirE, BlP.
-/
import Derived.Test.YtiampiakhkpcbaaStitches
import Derived.Test.YtiampiakhkpcbaaPk9
import Derived.Test.YtiampiakhkpcbaaOwn
import Derived.Test.YtiampiakhkpcbaaPk14
import Derived.Test.YtiampiakhkpcbaaPk13
/-
  An event in a mirror: the reference's l13Mirror.
-/
namespace Go.Proofs.Ytiampiakhkpcbaa
set_option linter.unusedVariables false
set_option linter.unusedSimpArgs false
open Go.RowKit

def mirE (n : Int) (e : Ev) : Ev := if e.k = 1 then ⟨e.k, n - 2 - e.p, -e.c, e.b, e.y, -e.d⟩ else ⟨e.k, n - e.p - e.c, e.c, e.b, e.y, -e.d⟩

/-- What is asked of an event so that no number wraps. -/
structure Tame (n : Int) (e : Ev) : Prop where
  p0 : 0 ≤ e.p
  p1 : e.p ≤ 12
  c0 : -1 ≤ e.c
  c1 : e.c ≤ 4
  d0 : -1 ≤ e.d
  d1 : e.d ≤ 1


end Go.Proofs.Ytiampiakhkpcbaa

/-
  MirrorEvents of the reference and of the program.
-/
namespace Go.Proofs.Ytiampiakhkpcbaa
set_option linter.unusedVariables false
set_option linter.unusedSimpArgs false
open Go.RowKit

def mirG : List Ev → Int → List Ev → Option (List Ev)
  | acc, _, [] => some acc
  | acc, n, x :: l => if x.k = 5 then none else mirG (acc ++ [mirE n x]) (aftE n x) l
theorem mir_yes {R : Option (List Ev)} {l acc : List Ev} {k : Nat} {m : Int} {x : Ev} (h : R = mirG acc m (l.drop k)) (hx : l[k]? = some x) (h5 : x.k ≠ 5) : R = mirG (acc ++ [mirE m x]) (aftE m x) (l.drop (k + 1)) := by
  rw [h, drop_of_get hx, mirG, if_neg h5]
theorem mir_no {R : Option (List Ev)} {l acc : List Ev} {k : Nat} {m : Int} {x : Ev} (h : R = mirG acc m (l.drop k)) (hx : l[k]? = some x) (h5 : x.k = 5) : R = none := by
  rw [h, drop_of_get hx, mirG, if_pos h5]
theorem mirG_len : ∀ (l acc : List Ev) (n : Int), ((mirG acc n l).getD []).length ≤ acc.length + l.length
  | [], acc, n => by simp [mirG]
  | x :: l, acc, n => by
    rw [mirG]
    split
    · simp
    · refine Nat.le_trans (mirG_len l _ _) ?_
      simp; omega
def mirL (l : List Ev) : List Ev := if okEvs l = true then (mirG [] 0 l).getD [] else []
def mirC (l : List Ev) : Int := if okEvs l = true then (if (mirG [] 0 l).isSome = true then 0 else 6) else 1
theorem mirL_len (l : List Ev) : (mirL l).length ≤ l.length := by
  unfold mirL
  split
  · exact Nat.le_trans (mirG_len _ _ _) (by simp)
  · simp
theorem mir_bad {l : List Ev} (h : okEvs l = false) : mirL l = [] ∧ mirC l = 1 := by simp [mirL, mirC, h]
theorem mir_none {l : List Ev} (h : okEvs l = true) (hm : mirG [] 0 l = none) : mirL l = [] ∧ mirC l = 6 := by simp [mirL, mirC, h, hm]
theorem mir_some {l acc : List Ev} (h : okEvs l = true) (hm : mirG [] 0 l = some acc) : mirL l = acc ∧ mirC l = 0 := by simp [mirL, mirC, h, hm]

/-- What a valid event is. -/
theorem tame_of {n : Int} {x : Ev} (h1 : n ≤ 12) (h : valE n x = true) : Tame n x ∧ (x.k = 1 ∨ x.k = 2 ∨ (x.k = 3 ∧ x.c = 0) ∨ x.k = 4 ∨ x.k = 5) := by
  have hd : stitB x = true → x.d = 1 ∨ x.d = -1 := by
    intro h; unfold stitB stit3 dirB at h; simp at h; exact h.2.2
  rw [valE_K] at h
  unfold valK plainB at h
  by_cases k1 : x.k = 1
  · simp [k1] at h
    exact ⟨⟨by omega, by omega, by omega, by omega, by omega, by omega⟩, .inl k1⟩
  by_cases k2 : x.k = 2
  · simp [k2] at h
    have := hd h.2.2.2
    exact ⟨⟨by omega, by omega, by omega, by omega, by omega, by omega⟩, .inr (.inl k2)⟩
  by_cases k3 : x.k = 3
  · simp [k3] at h
    have := hd h.2.2.2
    exact ⟨⟨by omega, by omega, by omega, by omega, by omega, by omega⟩, .inr (.inr (.inl ⟨k3, by omega⟩))⟩
  by_cases k4 : x.k = 4
  · simp [k4] at h
    exact ⟨⟨by omega, by omega, by omega, by omega, by omega, by omega⟩, .inr (.inr (.inr (.inl k4)))⟩
  by_cases k5 : x.k = 5
  · simp [k5] at h
    have := hd h.2.2.1
    refine ⟨⟨by omega, ?_, by omega, by omega, by omega, by omega⟩, .inr (.inr (.inr (.inr k5)))⟩
    have h4 := h.2.2.2
    split at h4 <;> omega
  simp [k1, k2, k3, k4, k5] at h
/-- Where the counting goes through, the next event is valid. -/
theorem val_at {l : List Ev} {k : Nat} {m : Int} {x : Ev} (h : (cntE m (l.drop k)).isSome = true) (hx : l[k]? = some x) : valE m x = true ∧ aftE m x ≤ 12 ∧ (cntE (aftE m x) (l.drop (k + 1))).isSome = true := by
  rw [drop_of_get hx, cntE] at h
  by_cases hv : valE m x = true ∧ aftE m x ≤ 12
  · rw [if_pos hv] at h
    exact ⟨hv.1, hv.2, h⟩
  · rw [if_neg hv] at h
    simp at h
theorem okEvs_cnt {l : List Ev} (h : okEvs l = true) : (cntE 0 (l.drop 0)).isSome = true ∧ l.length ≤ 2000 := by
  unfold okEvs at h
  simp at h
  exact ⟨by simpa using h.1, h.2⟩

theorem mirE_k1 {n : Int} {x : Ev} (h : x.k = 1) : mirE n x = ⟨x.k, n - 2 - x.p, -x.c, x.b, x.y, -x.d⟩ := by simp [mirE, h]
theorem mirE_k0 {n : Int} {x : Ev} (h : x.k ≠ 1) : mirE n x = ⟨x.k, n - x.p - x.c, x.c, x.b, x.y, -x.d⟩ := by simp [mirE, h]

set_option maxHeartbeats 8000000 in
set_option maxRecDepth 100000 in
theorem implMirror_any (v : Value) (l : List Ev) (w : World) (hl : RdE w w.heap.size v l) (_ : l.length ≤ 1048576) :
    Calls Try.prog 16 #[v] w (GivesC w 33 6 (mirL l).length (vE (mirL l)) (mirC l)) := by
  have HL := Lib.hid hl
  cases hok : okEvs l
  · clear hl
    have HK := Lib.hid (mir_bad hok)
    have HO := Lib.hid hok
    clear hok
    go_enter Try.func16, Try.ntmps16
    go_wp2_with fail
    refine (implValidEvents_any _ l _ _ HL.out (Nat.le_refl _)).mono ?_
    rintro e w1 ⟨rfl, hb1⟩
    rw [HO.out]
    have HB := Lib.hid hb1
    clear hb1
    go_wp2
    go_ret2
    rw [HK.out.1, HK.out.2]
    exact ⟨_, rfl, .nil, HB.out⟩
  obtain ⟨A, n, c, rfl, hln, hl, gl⟩ := hl
  obtain ⟨hcnt, hn0⟩ := okEvs_cnt hok
  have hn : n ≤ 2000 := by have := hl.out; omega
  clear hn0
  obtain ⟨i0, hi, hz0, hz1, hz2⟩ := info_parts info_ev
  have HOK := Lib.hid hok
  have HC := Lib.hid hcnt
  have HR := Lib.hid (rfl : mirG [] 0 l = mirG [] 0 l)
  generalize hR : mirG [] 0 l = R at HR
  have HRR := Lib.hid hR
  clear hok hcnt HR hR
  have GL := Lib.hid gl
  clear gl
  go_enter Try.func16, Try.ntmps16
  go_wp2_with fail
  refine (implValidEvents_any _ l _ _ HL.out (Nat.le_refl _)).mono ?_
  rintro e w1 ⟨rfl, hb1⟩
  rw [HOK.out]
  have HB1 := Lib.hid hb1
  clear hb1
  go_wp2
  go_loopw [4, 5, 15] (fun t m i wr => ∃ (k : Nat) (acc : List Ev) (n' : Int), k ≤ n ∧ i = .int .i64 k ∧ m = .int .i64 n' ∧ 0 ≤ n' ∧ n' ≤ 12 ∧ wr.ownsRow w.heap.size 33 6 t acc.length (vE acc) ∧ acc.length ≤ k ∧ Hid (R = mirG acc n' (l.drop k)) ∧ Hid ((cntE n' (l.drop k)).isSome = true) ∧ Below w.heap.size w wr) (fun _ _ i _ => n - (intOf i).toNat)
  case atStart => exact ⟨0, [], 0, Nat.zero_le _, rfl, rfl, by omega, by omega, World.ownsRow_lit _ _ _ (by have := HB1.out.size; omega) (by unfold maxLen; omega) rfl, Nat.le_refl _, HRR.out.symm, HC.out, HB1.out.alloc (by have := HB1.out.size; omega) _⟩
  case round =>
    rename_i wr
    obtain ⟨k, acc, n', hk, rfl, rfl, n0, n1, hown, hak, hd, hc', hb⟩ := hrel
    by_cases hlt : k < n
    · obtain ⟨b, off, x, rfl, hbb, hlk, hc⟩ := GL.out k hlt
      obtain ⟨c0, c1, c2, c3, c4, c5⟩ := (hc.below hb hbb).six
      obtain ⟨hv, ha, hcn⟩ := val_at hc'.out hlk
      obtain ⟨a0, -⟩ := aft_bounds n0 n1 hv
      obtain ⟨⟨p0, p1, q0, q1, d0, d1⟩, hkk⟩ := tame_of n1 hv
      have HV := Lib.hid hv
      have HB := Lib.hid hb
      have Hl := Lib.hid hlk
      have HO := Lib.hid hown
      have HCN := Lib.hid hcn
      clear hc hb hlk hown hc' hv hcn
      by_cases h5 : x.k = 5
      · have HN := Lib.hid (mir_none HOK.out (HRR.out.trans (mir_no hd.out Hl.out h5)))
        go_wp2
        go_ret2
        rw [HN.out.1, HN.out.2]
        exact ⟨_, rfl, .nil, (HB.out.alloc HB.out.size _).alloc (by have := HB.out.size; simp; omega) _⟩
      · have HD := Lib.hid (mir_yes hd.out Hl.out h5)
        obtain ⟨k_, p, q, bd, y, d⟩ := x
        simp only at p0 p1 q0 q1 d0 d1 hkk h5 c0 c1 c2 c3 c4 c5
        rcases hkk with rfl | rfl | ⟨rfl, rfl⟩ | rfl | rfl
        /- one step of impl.MirrorEvents: kind 1, the event ⟨1, p, q, bd, y, d⟩, its image ⟨1, n' - 2 - p, -q, bd, y, -d⟩ -/
        · go_wp2_with (at_builtin; refine wpList_append_own _ rfl _ _ 23 rfl w.heap.size 33 i0 _ 6 48 Try.underlying23 hi hz0 hz1 hz2 rfl (by decide) _ _ _ rfl (((HO.out.alloc _).alloc _).alloc _) ⟨wr.heap.size + 1 + 1, 0, none⟩ 1 1 (⟨1, n' - 2 - p, -q, bd, y, -d⟩ : Ev).cells rfl rfl ?c1 ?c2 ?c3 ?c4 ?c5 ?_)
          case c1 => exact new_cells' _ _ (by simp)
          case c2 => exact cells_one _
          case c3 => unfold maxLen; omega
          case c4 => omega
          case c5 => have := HB.out.size; simp; omega
          intro v' w2 hown2 hgrow2 _
          have hc2 : ∀ o, w2.cell? ⟨wr.heap.size, o, none⟩ = _ := fun o => World.cell?_of_block (hgrow2.block wr.heap.size (by simp; omega) (fun e => by have := (HO.out.lt _ e.symm).2; omega))
          have hd2 := CellsAt.six (w := w2) (b := wr.heap.size) (o := 0) (u0 := .int .i64 (⟨1, p, q, bd, y, d⟩ : Ev).k) (u1 := .int .i64 (⟨1, p, q, bd, y, d⟩ : Ev).p) (u2 := .int .i64 (⟨1, p, q, bd, y, d⟩ : Ev).c) (u3 := .int .i64 (⟨1, p, q, bd, y, d⟩ : Ev).b) (u4 := .int .i64 (⟨1, p, q, bd, y, d⟩ : Ev).y) (u5 := .int .i64 (⟨1, p, q, bd, y, d⟩ : Ev).d) (by
            intro j u hu
            rw [hc2]
            rcases j with _ | _ | _ | _ | _ | _ | j <;> simp at hu <;> subst hu <;> simp [go_sem])
          obtain ⟨t0, t1, t2, t3, t4, t5⟩ := hd2
          have HB1 := Lib.hid (below_append' (((HB.out.alloc HB.out.size _).alloc (by have := HB.out.size; simp; omega) _).alloc (by have := HB.out.size; simp; omega) _) (by have := HB.out.size; simp; omega) HO.out (by simp; omega) hgrow2)
          have HO1 : Hid (w2.ownsRow w.heap.size 33 6 v' (acc ++ [mirE n' ⟨1, p, q, bd, y, d⟩]).length (vE (acc ++ [mirE n' ⟨1, p, q, bd, y, d⟩]))) := by
            unfold Hid
            rw [vE_snoc, List.length_append]
            have hm : (mirE n' ⟨1, p, q, bd, y, d⟩).cells = (⟨1, n' - 2 - p, -q, bd, y, -d⟩ : Ev).cells := by simp [mirE]
            rw [hm]
            exact hown2
          clear hgrow2 hown2 hc2 HB HO
          go_wp2_with fail
          refine (after_any ⟨1, p, q, bd, y, d⟩ n' n0 n1 HV.out _).mono ?_
          rintro e w3 ⟨rfl, hb3⟩
          have HB3 := Lib.hid (HB1.out.trans (hb3.mono HB1.out.size))
          have HO3 := Lib.hid (own_below HO1.out hb3)
          clear hb3 HB1 HO1
          go_wp2
          exact ⟨⟨k + 1, acc ++ [mirE n' ⟨1, p, q, bd, y, d⟩], aftE n' ⟨1, p, q, bd, y, d⟩, by omega, by go_num, rfl, a0, ha, HO3.out, by simp; omega, HD.out, HCN.out, HB3.out⟩, by simp [intOf]; omega⟩
        /- one step of impl.MirrorEvents: kind 2, the event ⟨2, p, q, bd, y, d⟩, its image ⟨2, n' - p - q, q, bd, y, -d⟩ -/
        · go_wp2_with (at_builtin; refine wpList_append_own _ rfl _ _ 23 rfl w.heap.size 33 i0 _ 6 48 Try.underlying23 hi hz0 hz1 hz2 rfl (by decide) _ _ _ rfl (((HO.out.alloc _).alloc _).alloc _) ⟨wr.heap.size + 1 + 1, 0, none⟩ 1 1 (⟨2, n' - p - q, q, bd, y, -d⟩ : Ev).cells rfl rfl ?c1 ?c2 ?c3 ?c4 ?c5 ?_)
          case c1 => exact new_cells' _ _ (by simp)
          case c2 => exact cells_one _
          case c3 => unfold maxLen; omega
          case c4 => omega
          case c5 => have := HB.out.size; simp; omega
          intro v' w2 hown2 hgrow2 _
          have hc2 : ∀ o, w2.cell? ⟨wr.heap.size, o, none⟩ = _ := fun o => World.cell?_of_block (hgrow2.block wr.heap.size (by simp; omega) (fun e => by have := (HO.out.lt _ e.symm).2; omega))
          have hd2 := CellsAt.six (w := w2) (b := wr.heap.size) (o := 0) (u0 := .int .i64 (⟨2, p, q, bd, y, d⟩ : Ev).k) (u1 := .int .i64 (⟨2, p, q, bd, y, d⟩ : Ev).p) (u2 := .int .i64 (⟨2, p, q, bd, y, d⟩ : Ev).c) (u3 := .int .i64 (⟨2, p, q, bd, y, d⟩ : Ev).b) (u4 := .int .i64 (⟨2, p, q, bd, y, d⟩ : Ev).y) (u5 := .int .i64 (⟨2, p, q, bd, y, d⟩ : Ev).d) (by
            intro j u hu
            rw [hc2]
            rcases j with _ | _ | _ | _ | _ | _ | j <;> simp at hu <;> subst hu <;> simp [go_sem])
          obtain ⟨t0, t1, t2, t3, t4, t5⟩ := hd2
          have HB1 := Lib.hid (below_append' (((HB.out.alloc HB.out.size _).alloc (by have := HB.out.size; simp; omega) _).alloc (by have := HB.out.size; simp; omega) _) (by have := HB.out.size; simp; omega) HO.out (by simp; omega) hgrow2)
          have HO1 : Hid (w2.ownsRow w.heap.size 33 6 v' (acc ++ [mirE n' ⟨2, p, q, bd, y, d⟩]).length (vE (acc ++ [mirE n' ⟨2, p, q, bd, y, d⟩]))) := by
            unfold Hid
            rw [vE_snoc, List.length_append]
            have hm : (mirE n' ⟨2, p, q, bd, y, d⟩).cells = (⟨2, n' - p - q, q, bd, y, -d⟩ : Ev).cells := by simp [mirE]
            rw [hm]
            exact hown2
          clear hgrow2 hown2 hc2 HB HO
          go_wp2_with fail
          refine (after_any ⟨2, p, q, bd, y, d⟩ n' n0 n1 HV.out _).mono ?_
          rintro e w3 ⟨rfl, hb3⟩
          have HB3 := Lib.hid (HB1.out.trans (hb3.mono HB1.out.size))
          have HO3 := Lib.hid (own_below HO1.out hb3)
          clear hb3 HB1 HO1
          go_wp2
          exact ⟨⟨k + 1, acc ++ [mirE n' ⟨2, p, q, bd, y, d⟩], aftE n' ⟨2, p, q, bd, y, d⟩, by omega, by go_num, rfl, a0, ha, HO3.out, by simp; omega, HD.out, HCN.out, HB3.out⟩, by simp [intOf]; omega⟩
        /- one step of impl.MirrorEvents: kind 3, the event ⟨3, p, 0, bd, y, d⟩, its image ⟨3, n' - p, 0, bd, y, -d⟩ -/
        · go_wp2_with (at_builtin; refine wpList_append_own _ rfl _ _ 23 rfl w.heap.size 33 i0 _ 6 48 Try.underlying23 hi hz0 hz1 hz2 rfl (by decide) _ _ _ rfl (((HO.out.alloc _).alloc _).alloc _) ⟨wr.heap.size + 1 + 1, 0, none⟩ 1 1 (⟨3, n' - p, 0, bd, y, -d⟩ : Ev).cells rfl rfl ?c1 ?c2 ?c3 ?c4 ?c5 ?_)
          case c1 => exact new_cells' _ _ (by simp)
          case c2 => exact cells_one _
          case c3 => unfold maxLen; omega
          case c4 => omega
          case c5 => have := HB.out.size; simp; omega
          intro v' w2 hown2 hgrow2 _
          have hc2 : ∀ o, w2.cell? ⟨wr.heap.size, o, none⟩ = _ := fun o => World.cell?_of_block (hgrow2.block wr.heap.size (by simp; omega) (fun e => by have := (HO.out.lt _ e.symm).2; omega))
          have hd2 := CellsAt.six (w := w2) (b := wr.heap.size) (o := 0) (u0 := .int .i64 (⟨3, p, 0, bd, y, d⟩ : Ev).k) (u1 := .int .i64 (⟨3, p, 0, bd, y, d⟩ : Ev).p) (u2 := .int .i64 (⟨3, p, 0, bd, y, d⟩ : Ev).c) (u3 := .int .i64 (⟨3, p, 0, bd, y, d⟩ : Ev).b) (u4 := .int .i64 (⟨3, p, 0, bd, y, d⟩ : Ev).y) (u5 := .int .i64 (⟨3, p, 0, bd, y, d⟩ : Ev).d) (by
            intro j u hu
            rw [hc2]
            rcases j with _ | _ | _ | _ | _ | _ | j <;> simp at hu <;> subst hu <;> simp [go_sem])
          obtain ⟨t0, t1, t2, t3, t4, t5⟩ := hd2
          have HB1 := Lib.hid (below_append' (((HB.out.alloc HB.out.size _).alloc (by have := HB.out.size; simp; omega) _).alloc (by have := HB.out.size; simp; omega) _) (by have := HB.out.size; simp; omega) HO.out (by simp; omega) hgrow2)
          have HO1 : Hid (w2.ownsRow w.heap.size 33 6 v' (acc ++ [mirE n' ⟨3, p, 0, bd, y, d⟩]).length (vE (acc ++ [mirE n' ⟨3, p, 0, bd, y, d⟩]))) := by
            unfold Hid
            rw [vE_snoc, List.length_append]
            have hm : (mirE n' ⟨3, p, 0, bd, y, d⟩).cells = (⟨3, n' - p, 0, bd, y, -d⟩ : Ev).cells := by simp [mirE]
            rw [hm]
            exact hown2
          clear hgrow2 hown2 hc2 HB HO
          go_wp2_with fail
          refine (after_any ⟨3, p, 0, bd, y, d⟩ n' n0 n1 HV.out _).mono ?_
          rintro e w3 ⟨rfl, hb3⟩
          have HB3 := Lib.hid (HB1.out.trans (hb3.mono HB1.out.size))
          have HO3 := Lib.hid (own_below HO1.out hb3)
          clear hb3 HB1 HO1
          go_wp2
          exact ⟨⟨k + 1, acc ++ [mirE n' ⟨3, p, 0, bd, y, d⟩], aftE n' ⟨3, p, 0, bd, y, d⟩, by omega, by go_num, rfl, a0, ha, HO3.out, by simp; omega, HD.out, HCN.out, HB3.out⟩, by simp [intOf]; omega⟩
        /- one step of impl.MirrorEvents: kind 4, the event ⟨4, p, q, bd, y, d⟩, its image ⟨4, n' - p - q, q, bd, y, -d⟩ -/
        · go_wp2_with (at_builtin; refine wpList_append_own _ rfl _ _ 23 rfl w.heap.size 33 i0 _ 6 48 Try.underlying23 hi hz0 hz1 hz2 rfl (by decide) _ _ _ rfl (((HO.out.alloc _).alloc _).alloc _) ⟨wr.heap.size + 1 + 1, 0, none⟩ 1 1 (⟨4, n' - p - q, q, bd, y, -d⟩ : Ev).cells rfl rfl ?c1 ?c2 ?c3 ?c4 ?c5 ?_)
          case c1 => exact new_cells' _ _ (by simp)
          case c2 => exact cells_one _
          case c3 => unfold maxLen; omega
          case c4 => omega
          case c5 => have := HB.out.size; simp; omega
          intro v' w2 hown2 hgrow2 _
          have hc2 : ∀ o, w2.cell? ⟨wr.heap.size, o, none⟩ = _ := fun o => World.cell?_of_block (hgrow2.block wr.heap.size (by simp; omega) (fun e => by have := (HO.out.lt _ e.symm).2; omega))
          have hd2 := CellsAt.six (w := w2) (b := wr.heap.size) (o := 0) (u0 := .int .i64 (⟨4, p, q, bd, y, d⟩ : Ev).k) (u1 := .int .i64 (⟨4, p, q, bd, y, d⟩ : Ev).p) (u2 := .int .i64 (⟨4, p, q, bd, y, d⟩ : Ev).c) (u3 := .int .i64 (⟨4, p, q, bd, y, d⟩ : Ev).b) (u4 := .int .i64 (⟨4, p, q, bd, y, d⟩ : Ev).y) (u5 := .int .i64 (⟨4, p, q, bd, y, d⟩ : Ev).d) (by
            intro j u hu
            rw [hc2]
            rcases j with _ | _ | _ | _ | _ | _ | j <;> simp at hu <;> subst hu <;> simp [go_sem])
          obtain ⟨t0, t1, t2, t3, t4, t5⟩ := hd2
          have HB1 := Lib.hid (below_append' (((HB.out.alloc HB.out.size _).alloc (by have := HB.out.size; simp; omega) _).alloc (by have := HB.out.size; simp; omega) _) (by have := HB.out.size; simp; omega) HO.out (by simp; omega) hgrow2)
          have HO1 : Hid (w2.ownsRow w.heap.size 33 6 v' (acc ++ [mirE n' ⟨4, p, q, bd, y, d⟩]).length (vE (acc ++ [mirE n' ⟨4, p, q, bd, y, d⟩]))) := by
            unfold Hid
            rw [vE_snoc, List.length_append]
            have hm : (mirE n' ⟨4, p, q, bd, y, d⟩).cells = (⟨4, n' - p - q, q, bd, y, -d⟩ : Ev).cells := by simp [mirE]
            rw [hm]
            exact hown2
          clear hgrow2 hown2 hc2 HB HO
          go_wp2_with fail
          refine (after_any ⟨4, p, q, bd, y, d⟩ n' n0 n1 HV.out _).mono ?_
          rintro e w3 ⟨rfl, hb3⟩
          have HB3 := Lib.hid (HB1.out.trans (hb3.mono HB1.out.size))
          have HO3 := Lib.hid (own_below HO1.out hb3)
          clear hb3 HB1 HO1
          go_wp2
          exact ⟨⟨k + 1, acc ++ [mirE n' ⟨4, p, q, bd, y, d⟩], aftE n' ⟨4, p, q, bd, y, d⟩, by omega, by go_num, rfl, a0, ha, HO3.out, by simp; omega, HD.out, HCN.out, HB3.out⟩, by simp [intOf]; omega⟩
        · exact absurd rfl h5
    · have HB := Lib.hid hb
      have HO := Lib.hid hown
      have HN := Lib.hid (mir_some HOK.out (HRR.out.trans (show R = some acc by rw [hd.out, List.drop_of_length_le (by have := hl.out; omega)]; rfl)))
      clear hb hown
      go_wp2
      go_ret2
      rw [HN.out.1, HN.out.2]
      exact ⟨_, rfl, OwC.of_own HO.out, HB.out⟩


end Go.Proofs.Ytiampiakhkpcbaa

/-
  The events of blocks can be listed; mirrored events (plain).
-/
namespace Go.Proofs.Ytiampiakhkpcbaa
set_option linter.unusedVariables false
set_option linter.unusedSimpArgs false
open Go.RowKit

/-! ### Blocks that are in order -/
/-- The strands behind blocks, but for lengths and letters. -/
def endB : Int → List Bk → Option Int
  | n, [] => some n
  | n, x :: xs => if x.b.n = n ∧ x.e.any crossK = false then match cntE n x.e with
    | some m => endB m xs
    | none => none
    else none
theorem endB_snoc : ∀ (o : List Bk) (n : Int) (y : Bk), endB n (o ++ [y]) = (endB n o).bind fun m => endB m [y]
  | [], n, y => rfl
  | x :: o, n, y => by
    show endB n (x :: (o ++ [y])) = _
    rw [endB, endB]
    split
    · cases cntE n x.e with
      | none => rfl
      | some m => exact endB_snoc o m y
    · rfl
theorem endB_ok {m : Nat} (hm : m ≤ 2000) : ∀ (o : List Bk) (n : Int), (∀ x ∈ o, GoodB m x) → (endB n o).isSome = true → blksGo n o = true
  | [], n, _, _ => rfl
  | x :: o, n, hg, h => by
    have hx := hg x (by simp)
    rw [endB] at h
    split at h
    · rename_i hc
      rw [blksGo, nextBk]
      have hok : okOne n x = true := by
        unfold okOne okBr
        have h1 := hx.n0
        have h2 := hx.n1
        have h3 := hx.wl
        have h5 := hx.el
        have h4 : x.b.w.any (badL x.b.n) = false := by
          rw [List.any_eq_false]
          intro k hk
          obtain ⟨h5, h6⟩ := hx.lets k hk
          unfold badL
          simp
          omega
        have h6 : x.e.length ≤ 2000 := by omega
        have h7 : decide (0 ≤ x.b.n) = true := by simpa using h1
        have h8 : decide (x.b.n ≤ 12) = true := by simpa using h2
        have h9 : decide (x.b.w.length ≤ 40) = true := by simpa using h3
        have h10 : decide (x.b.n = n) = true := by simpa using hc.1
        have h11 : decide (x.e.length ≤ 2000) = true := by simpa using h6
        rw [h4, hc.2, h7, h8, h9, h10, h11]
        rfl
      rw [if_pos hok]
      cases hcn : cntE n x.e with
      | none => rw [hcn] at h; simp at h
      | some q =>
        rw [hcn] at h
        exact endB_ok hm o q (fun y hy => hg y (List.mem_cons_of_mem _ hy)) h
    · simp at h
theorem cnt_snoc : ∀ (l : List Ev) (n : Int) (e : Ev), cntE n (l ++ [e]) = (cntE n l).bind fun m => cntE m [e]
  | [], n, e => rfl
  | x :: l, n, e => by
    show cntE n (x :: (l ++ [e])) = _
    rw [cntE, cntE]
    split
    · exact cnt_snoc l _ e
    · rfl
theorem endB_add {o : List Bk} {n m : Int} {e : Ev} (h : endB n o = some m) (ho : o ≠ []) (hv : valE m e = true) (ha : aftE m e ≤ 12) (hk : e.k ≠ 1) : endB n (addE o e) = some (aftE m e) := by
  rcases nil_or_snoc o with rfl | ⟨ys, y, rfl⟩
  · exact absurd rfl ho
  rw [addE_snoc, endB_snoc]
  rw [endB_snoc] at h
  cases hq : endB n ys with
  | none => rw [hq] at h; simp at h
  | some q =>
    rw [hq] at h
    simp only [Option.bind_some] at h ⊢
    rw [endB] at h ⊢
    split at h
    · rename_i hc
      have hc2 : y.b.n = q ∧ (y.e ++ [e]).any crossK = false := ⟨hc.1, by rw [List.any_append, hc.2]; simp [crossK, hk]⟩
      rw [if_pos hc2, cnt_snoc]
      cases hcn : cntE q y.e with
      | none => rw [hcn] at h; simp at h
      | some r =>
        rw [hcn] at h
        have hr : r = m := by simpa [endB] using h
        subst hr
        simp only [Option.bind_some, cntE]
        rw [if_pos ⟨hv, ha⟩]
        rfl
    · simp at h
theorem end_go : ∀ (l : List Ev) (n : Int) (w : List Int) (o p : List Bk), 0 ≤ n → n ≤ 12 → (cntE n l).isSome = true → o ≠ [] → endB 0 o = some n → bkGo n w o l = some p → (endB 0 p).isSome = true
  | [], n, w, o, p, h0, h1, hc, ho, he, h => by
    rw [bkGo] at h
    rcases clB_cases h with rfl | ⟨_, _, rfl⟩
    · rw [he]; rfl
    · rw [endB_snoc, he]
      simp [endB, cntE]
  | e :: l, n, w, o, p, h0, h1, hc, ho, he, h => by
    obtain ⟨hv, ha, hc'⟩ := cnt_at (l := e :: l) (k := 0) (x := e) (by simpa using hc) rfl
    simp only [Nat.zero_add, List.drop_succ_cons, List.drop_zero] at hc'
    have h2 := (aft_bounds h0 h1 hv).1
    rw [bkGo] at h
    split at h
    · rename_i hk
      rw [aft_cross hk] at hc'
      exact end_go l n _ o p h0 h1 hc' ho he h
    · rename_i hk
      split at h
      · cases h
      rename_i o1 ho1
      rcases clB_cases ho1 with rfl | ⟨_, _, rfl⟩
      · exact end_go l _ [] _ p h2 ha hc' (addE_ne ho e) (endB_add he ho hv ha hk) h
      · refine end_go l _ [] _ p h2 ha hc' (addE_ne (by simp) e) (endB_add ?_ (by simp) hv ha hk) h
        rw [endB_snoc, he]
        simp [endB, cntE]
theorem okBks_bks {l : List Ev} (h : okEvs l = true) (hc : bksC l = 0) : okBks (bksL l) = true := by
  obtain ⟨p, hp, hpl⟩ := bksC_some hc
  rw [hpl]
  obtain ⟨h1, h2⟩ := okEvs_cnt' h
  rw [List.drop_zero] at h1
  obtain ⟨hg, hl⟩ := good_bks h hp
  unfold okBks
  have h3 := end_go l 0 [] [⟨⟨0, []⟩, []⟩] p (by decide) (by decide) h1 (by simp) (by simp [endB, cntE]) (bkO_go hp)
  rw [endB_ok (Nat.le_refl _) p 0 hg h3]
  simp [hl]
theorem evb_bks {l : List Ev} (h : okEvs l = true) (hc : bksC l = 0) : evbC (bksL l) = 0 ∧ evbR (bksL l) = evsB (bksL l) ∧ okEvs (evsB (bksL l)) = true ∧ bksC (evsB (bksL l)) = 0 ∧ bksL (evsB (bksL l)) = bksL l ∧ (evsB (bksL l)).length ≤ 2000 := by
  have hok := okBks_bks h hc
  obtain ⟨p, hp, hpl⟩ := bksC_some hc
  obtain ⟨h1, h2, h3⟩ := evs_bks h hp
  obtain ⟨e1, e2⟩ := bks_some h2
  have hl := (okEvs_cnt' h).2
  rw [hpl] at hok ⊢
  have hz := evbC_ok hok (by omega)
  exact ⟨hz, by unfold evbR; rw [if_pos hz], h1, e2, e1, by omega⟩
theorem bks_first {l : List Ev} (h : okEvs l = true) (hc : bksC l = 0) : ∃ x, (bksL l)[0]? = some x ∧ eqBk x x = true := by
  obtain ⟨p, hp, hpl⟩ := bksC_some hc
  rw [hpl]
  have hne : 0 < p.length := by
    have h2 := bkGo_len (bkO_go hp)
    simp at h2
    omega
  have hx := List.getElem?_eq_getElem hne
  exact ⟨_, hx, key_eq ((good_bks h hp).1 _ (List.mem_of_getElem? hx)) ((good_bks h hp).1 _ (List.mem_of_getElem? hx)) rfl⟩

/-! ### In a mirror -/
def mirR : Int → List Ev → List Ev
  | _, [] => []
  | n, e :: l => mirE n e :: mirR (aftE n e) l
def NoSp (l : List Ev) : Prop := ∀ e ∈ l, e.k ≠ 5
theorem mirG_no : ∀ (l acc : List Ev) (n : Int), NoSp l → mirG acc n l = some (acc ++ mirR n l)
  | [], acc, n, _ => by rw [mirG, mirR, List.append_nil]
  | e :: l, acc, n, h => by
    rw [mirG, if_neg (h e (by simp)), mirG_no l _ _ fun x hx => h x (List.mem_cons_of_mem _ hx), mirR]
    simp
theorem mirG_some : ∀ (l acc : List Ev) (n : Int), (mirG acc n l).isSome = true → NoSp l
  | [], acc, n, _ => fun e he => by simp at he
  | e :: l, acc, n, h => by
    rw [mirG] at h
    split at h
    · simp at h
    · rename_i h5
      have ih := mirG_some l _ _ h
      intro x hx
      rcases List.mem_cons.1 hx with rfl | hx
      · exact h5
      · exact ih x hx
theorem mirE_aft (n m : Int) (e : Ev) : aftE m (mirE n e) = aftE m e := by
  unfold mirE aftE
  split
  · rename_i h; simp [h]
  · rfl
theorem mirE_kk (n : Int) (e : Ev) : (mirE n e).k = e.k := by unfold mirE; split <;> rfl
theorem mirE_two (n : Int) (e : Ev) : mirE n (mirE n e) = e := by
  unfold mirE
  by_cases h : e.k = 1
  · simp only [h, if_true]
    obtain ⟨k, p, c, b, y, d⟩ := e
    simp at h ⊢
    exact ⟨h.symm, by omega⟩
  · simp only [h, if_false]
    obtain ⟨k, p, c, b, y, d⟩ := e
    simp
    omega
theorem mirE_val {n : Int} {e : Ev} (h : valE n e = true) (h5 : e.k ≠ 5) : valE n (mirE n e) = true := by
  obtain ⟨k, p, c, b, y, d⟩ := e
  unfold mirE
  unfold valE at *
  simp only at h h5 ⊢
  by_cases h1 : k = 1
  · subst h1
    simp at h ⊢
    omega
  by_cases h2 : k = 2
  · subst h2
    simp [stit3, dirB] at h ⊢
    obtain ⟨a1, a2, a3, a4, a5, a6⟩ := h
    exact ⟨by omega, a2, by omega, a4, a5, by omega⟩
  by_cases h3 : k = 3
  · subst h3
    simp [stit3, dirB] at h ⊢
    obtain ⟨a1, a2, a3, a4, a5, a6⟩ := h
    exact ⟨by omega, a2, by omega, a4, a5, by omega⟩
  by_cases h4 : k = 4
  · subst h4
    simp at h ⊢
    omega
  simp [h1, h2, h3, h4, h5] at h
theorem mirR_no : ∀ (l : List Ev) (n : Int), NoSp l → NoSp (mirR n l)
  | [], n, _ => fun e he => by simp [mirR] at he
  | e :: l, n, h => by
    intro x hx
    rw [mirR] at hx
    rcases List.mem_cons.1 hx with rfl | hx
    · rw [mirE_kk]; exact h e (by simp)
    · exact mirR_no l _ (fun x hx => h x (List.mem_cons_of_mem _ hx)) x hx
theorem mirR_two : ∀ (l : List Ev) (n : Int), mirR n (mirR n l) = l
  | [], n => rfl
  | e :: l, n => by rw [mirR, mirR, mirE_two, mirE_aft, mirR_two l]
theorem mirR_len : ∀ (l : List Ev) (n : Int), (mirR n l).length = l.length
  | [], n => rfl
  | e :: l, n => by rw [mirR, List.length_cons, List.length_cons, mirR_len l]
theorem mirR_cnt : ∀ (l : List Ev) (n : Int), NoSp l → (cntE n l).isSome = true → cntE n (mirR n l) = cntE n l
  | [], n, _, _ => rfl
  | e :: l, n, h, hc => by
    obtain ⟨hv, ha, hc'⟩ := cnt_at (l := e :: l) (k := 0) (x := e) (by simpa using hc) rfl
    simp only [Nat.zero_add, List.drop_succ_cons, List.drop_zero] at hc'
    rw [mirR, cntE, cntE, mirE_aft, if_pos ⟨mirE_val hv (h e (by simp)), ha⟩, if_pos ⟨hv, ha⟩]
    exact mirR_cnt l _ (fun x hx => h x (List.mem_cons_of_mem _ hx)) hc'
/-- Events that can be mirrored: twice is once more the same, and as valid. -/
theorem mir_ok {l : List Ev} (h : okEvs l = true) (hc : mirC l = 0) : NoSp l ∧ mirL l = mirR 0 l := by
  have hs : (mirG [] 0 l).isSome = true := by
    unfold mirC at hc
    rw [if_pos h] at hc
    split at hc
    · assumption
    · omega
  have hn := mirG_some l [] 0 hs
  exact ⟨hn, (mir_some h (mirG_no l [] 0 hn)).1.trans (List.nil_append _)⟩
theorem mir_of {l : List Ev} (h : okEvs l = true) (hn : NoSp l) : mirC l = 0 ∧ mirL l = mirR 0 l := by
  obtain ⟨h1, h2⟩ := mir_some h (mirG_no l [] 0 hn)
  exact ⟨h2, h1.trans (List.nil_append _)⟩
theorem okEvs_mk {l : List Ev} (h : (cntE 0 l).isSome = true) (hl : l.length ≤ 2000) : okEvs l = true := by
  unfold okEvs
  rw [h]
  simpa using hl
theorem mir_val {l : List Ev} (h : okEvs l = true) (hn : NoSp l) : okEvs (mirR 0 l) = true := by
  obtain ⟨h1, h2⟩ := okEvs_cnt' h
  rw [List.drop_zero] at h1
  exact okEvs_mk (by rw [mirR_cnt l 0 hn h1]; exact h1) (by rw [mirR_len]; exact h2)
theorem mir_twice {l : List Ev} (h : okEvs l = true) (hc : mirC l = 0) : okEvs (mirL l) = true ∧ mirC (mirL l) = 0 ∧ mirL (mirL l) = l := by
  obtain ⟨hn, e⟩ := mir_ok h hc
  rw [e]
  have hv := mir_val h hn
  obtain ⟨h1, h2⟩ := mir_of hv (mirR_no l 0 hn)
  exact ⟨hv, h1, h2.trans (mirR_two l 0)⟩
theorem mirR_cross {n : Int} : ∀ (u r : List Ev), (∀ e ∈ u, e.k = 1) → mirR n (u ++ r) = u.map (mirE n) ++ mirR n r
  | [], r, _ => rfl
  | e :: u, r, h => by
    show mirR n (e :: (u ++ r)) = _
    rw [mirR, aft_cross (h e (by simp)), mirR_cross u r fun x hx => h x (List.mem_cons_of_mem _ hx)]
    rfl
theorem mirE_letE {n : Int} {k : Int} (h0 : 0 ≤ n) (h : Ltr n.toNat k) : mirE n (letE k) = letE (mirX n.toNat k) := by
  obtain ⟨h1, h2⟩ := h
  have hn : ((n.toNat : Nat) : Int) = n := by omega
  unfold mirX
  rw [hn]
  rcases Int.lt_trichotomy k 0 with hk | hk | hk
  · rw [letE_neg hk, if_neg (by omega), letE_pos (by omega)]
    unfold mirE
    simp
    omega
  · exact absurd hk h1
  · rw [letE_pos (by omega), if_pos hk, letE_neg (by omega)]
    unfold mirE
    simp
    omega
theorem mirE_letX {n : Int} {e : Ev} (h0 : 0 ≤ n) (h1 : n ≤ 12) (hv : valE n e = true) (hk : e.k = 1) : letX (mirE n e) = mirX n.toNat (letX e) := by
  obtain ⟨⟨q1, q2⟩, q3, q4, q5⟩ := letE_ltr h1 hv hk
  have hn : ((n.toNat : Nat) : Int) = n := by omega
  unfold mirX mirE letX at *
  rw [hn]
  simp only [hk, if_true]
  rcases q5 with h | h <;> rw [h] at * <;> split <;> omega
theorem val_cross {n : Int} (h1 : n ≤ 12) : ∀ (u r : List Ev), (∀ e ∈ u, e.k = 1) → (cntE n (u ++ r)).isSome = true → ∀ e ∈ u, valE n e = true
  | [], r, _, h => fun e he => by simp at he
  | e :: u, r, hu, h => by
    have he := hu e (by simp)
    obtain ⟨hv, ha, hc⟩ := cnt_at (l := e :: (u ++ r)) (k := 0) (x := e) (by simpa using h) rfl
    rw [aft_cross he] at hc
    have ih := val_cross h1 u r (fun x hx => hu x (List.mem_cons_of_mem _ hx)) (by simpa using hc)
    intro x hx
    rcases List.mem_cons.1 hx with rfl | hx
    · exact hv
    · exact ih x hx
theorem letsE_mir {n : Int} (h0 : 0 ≤ n) {w : List Int} (h : LetsN n.toNat w) : (letsE w).map (mirE n) = letsE (w.map (mirX n.toNat)) := by
  unfold letsE
  rw [List.map_map, List.map_map]
  exact List.map_congr_left fun k hk => mirE_letE h0 (h k hk)
theorem map_mir {n : Int} (h0 : 0 ≤ n) (h1 : n ≤ 12) {u : List Ev} (hu : ∀ e ∈ u, e.k = 1) (hv : ∀ e ∈ u, valE n e = true) : (u.map (mirE n)).map letX = (u.map letX).map (mirX n.toNat) := by
  rw [List.map_map, List.map_map]
  exact List.map_congr_left fun e he => mirE_letX h0 h1 (hv e he) (hu e he)
theorem ChE.mir {n : Int} {a b : List Ev} (h : ChE n a b) : 0 ≤ n → n ≤ 12 → (cntE n a).isSome = true → ChE n (mirR n a) (mirR n b) := by
  induction h with
  | @fin n u w hu h =>
    intro h0 h1 hc
    obtain ⟨h2, h3⟩ := cnt_cross h1 u [] hu (by simpa using hc)
    have hv := val_cross h1 u [] hu (by simpa using hc)
    have e1 := mirR_cross (n := n) u [] hu
    have e2 := mirR_cross (n := n) (letsE w) [] (letsE_k w)
    rw [mirR, List.append_nil, List.append_nil] at e1 e2
    rw [e1, e2, letsE_mir h0 (h.lets.1 h2)]
    refine .fin (fun e he => ?_) ?_
    · obtain ⟨x, hx, rfl⟩ := List.mem_map.1 he
      rw [mirE_kk]; exact hu x hx
    · rw [map_mir h0 h1 hu hv]
      exact h.mir
  | @step n u a b w e hu h he t ih =>
    intro h0 h1 hc
    obtain ⟨h2, h3⟩ := cnt_cross h1 u (e :: a) hu hc
    have hv := val_cross h1 u (e :: a) hu hc
    rw [h3] at hc
    obtain ⟨hve, ha, hc'⟩ := cnt_at (l := e :: a) (k := 0) (x := e) (by simpa using hc) rfl
    rw [mirR_cross u _ hu, mirR_cross (letsE w) _ (letsE_k w), letsE_mir h0 (h.lets.1 h2), mirR, mirR]
    refine .step (fun x hx => ?_) ?_ (by rw [mirE_kk]; exact he) ?_
    · obtain ⟨y, hy, rfl⟩ := List.mem_map.1 hx
      rw [mirE_kk]; exact hu y hy
    · rw [map_mir h0 h1 hu hv]
      exact h.mir
    · rw [mirE_aft]
      exact ih (aft_bounds h0 h1 hve).1 ha (by simpa using hc')
theorem ChE.noSp {n : Int} {a b : List Ev} (h : ChE n a b) : NoSp a → NoSp b := by
  have hl : ∀ (w : List Int), ∀ x ∈ letsE w, x.k ≠ 5 := fun w x hx => by rw [letsE_k w x hx]; decide
  induction h with
  | fin hu h => exact fun _ x hx => hl _ x hx
  | @step n u a b w e hu h he t ih =>
    intro hn x hx
    rcases List.mem_append.1 hx with hx | hx
    · exact hl w x hx
    · rcases List.mem_cons.1 hx with rfl | hx
      · exact hn x (by simp)
      · exact ih (fun y hy => hn y (by simp [hy])) x hx
/-- Changed braids: valid too, and mirrored they are changed braids. -/
theorem ch_mir {a b : List Ev} (h : ChE 0 a b) (ha : okEvs a = true) (hb : b.length ≤ 2000) (hc : mirC a = 0) : mirC b = 0 ∧ ChE 0 (mirL a) (mirL b) := by
  obtain ⟨h1, h2⟩ := okEvs_cnt' ha
  rw [List.drop_zero] at h1
  have hbv : okEvs b = true := okEvs_mk (by rw [h.cnt (by decide) (by decide) h1]; exact h1) hb
  obtain ⟨hn, e⟩ := mir_ok ha hc
  obtain ⟨h3, h4⟩ := mir_of hbv (h.noSp hn)
  refine ⟨h3, ?_⟩
  rw [e, h4]
  exact h.mir (by decide) (by decide) h1
theorem ch_fab {a b : List Ev} (h : ChE 0 a b) : prC a b ≠ 0 ∨ sfB a b = true := by
  by_cases hc : prC a b = 0
  · right
    unfold sfB
    rw [hc, (ch_same h hc).2]
    rfl
  · exact .inl hc

end Go.Proofs.Ytiampiakhkpcbaa
