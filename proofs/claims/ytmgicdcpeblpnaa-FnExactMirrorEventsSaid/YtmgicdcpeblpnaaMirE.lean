/-
  MirrorEvents of the reference and of the program.
-/
import Derived.Test.YtmgicdcpeblpnaaMirror
import Derived.Test.YtmgicdcpeblpnaaCount
namespace Go.Proofs.Ytmgicdcpeblpnaa
set_option linter.unusedVariables false
set_option linter.unusedSimpArgs false
open Go.RowKit

theorem own_below {w w' : World} {B e size n : Nat} {v : Value} {xs : List Value} (h : w.ownsRow B e size v n xs) (hb : Below w.heap.size w w') : w'.ownsRow B e size v n xs := by
  refine ⟨h.1, ?_⟩
  rcases h.2 with h2 | ⟨g, cap, cur, hv, hg, hh, h3⟩
  · exact .inl h2
  · exact .inr ⟨g, cap, cur, hv, hg, (hb.block g (Array.getElem?_eq_some_iff.1 hh).1).trans hh, h3⟩

/-- A slice of the call's own and a code. -/
def GivesC (w : World) (E sz n : Nat) (xs : List Value) (code : Int) (e : Ending) (w' : World) : Prop :=
  ∃ v, e = .returned (.tuple #[v, .int .i64 code]) ∧ OwC w' w.heap.size w'.heap.size E sz v n xs ∧ Below w.heap.size w w'

theorem OwC.nil {w : World} {lo hi E sz : Nat} {A : Option Addr} {c : Nat} : OwC w lo hi E sz (.slice A 0 c) 0 [] := ⟨by simp, .inl ⟨rfl, A, c, rfl⟩⟩

theorem new_cells' {w : World} (E : TypeId) (us : List Value) {g : Nat} (hg : g = w.heap.size) : ∀ j u, us[j]? = some u → (w.alloc (.cells us.toArray E)).cell? ((⟨g, 0, none⟩ : Addr).add j) = some u := by
  subst hg
  exact new_cells w E us
theorem below_append' {B : Nat} {a w0 w w' : World} {E sz n : Nat} {v : Value} {xs : List Value} (h : Below B a w) (hB : B ≤ w.heap.size) (ho : w0.ownsRow B E sz v n xs) (hs : w0.heap.size ≤ w.heap.size) (hg : w.grownBy w' v.ownBlock) : Below B a w' :=
  h.grown hg hB (fun k hk => (ho.lt k hk).1)

def mirG : List Ev → Int → List Ev → Option (List Ev)
  | acc, _, [] => some acc
  | acc, n, x :: l => if x.k = 5 then none else mirG (acc ++ [mirE n x]) (aftE n x) l
theorem mir_yes {R : Option (List Ev)} {l acc : List Ev} {k : Nat} {m : Int} {x : Ev} (h : R = mirG acc m (l.drop k)) (hx : l[k]? = some x) (h5 : x.k ≠ 5) : R = mirG (acc ++ [mirE m x]) (aftE m x) (l.drop (k + 1)) := by
  rw [h, drop_of_get hx, mirG, if_neg h5]
theorem mir_no {R : Option (List Ev)} {l acc : List Ev} {k : Nat} {m : Int} {x : Ev} (h : R = mirG acc m (l.drop k)) (hx : l[k]? = some x) (h5 : x.k = 5) : R = none := by
  rw [h, drop_of_get hx, mirG, if_pos h5]
theorem mirG_len : ∀ (l acc : List Ev) (n : Int), ((mirG acc n l).getD []).length ≤ acc.length + l.length
  | [], acc, n => by simp [mirG]
  | x :: l, acc, n => by
    rw [mirG]
    split
    · simp
    · refine Nat.le_trans (mirG_len l _ _) ?_
      simp; omega
def mirL (l : List Ev) : List Ev := if okEvs l = true then (mirG [] 0 l).getD [] else []
def mirC (l : List Ev) : Int := if okEvs l = true then (if (mirG [] 0 l).isSome = true then 0 else 6) else 1
theorem mirL_len (l : List Ev) : (mirL l).length ≤ l.length := by
  unfold mirL
  split
  · exact Nat.le_trans (mirG_len _ _ _) (by simp)
  · simp
theorem mir_bad {l : List Ev} (h : okEvs l = false) : mirL l = [] ∧ mirC l = 1 := by simp [mirL, mirC, h]
theorem mir_none {l : List Ev} (h : okEvs l = true) (hm : mirG [] 0 l = none) : mirL l = [] ∧ mirC l = 6 := by simp [mirL, mirC, h, hm]
theorem mir_some {l acc : List Ev} (h : okEvs l = true) (hm : mirG [] 0 l = some acc) : mirL l = acc ∧ mirC l = 0 := by simp [mirL, mirC, h, hm]

/-- What a valid event is. -/
theorem tame_of {n : Int} {x : Ev} (h1 : n ≤ 12) (h : valE n x = true) : Tame n x ∧ (x.k = 1 ∨ x.k = 2 ∨ (x.k = 3 ∧ x.c = 0) ∨ x.k = 4 ∨ x.k = 5) := by
  have hd : stitB x = true → x.d = 1 ∨ x.d = -1 := by
    intro h; unfold stitB stit3 dirB at h; simp at h; exact h.2.2
  rw [valE_K] at h
  unfold valK plainB at h
  by_cases k1 : x.k = 1
  · simp [k1] at h
    exact ⟨⟨by omega, by omega, by omega, by omega, by omega, by omega⟩, .inl k1⟩
  by_cases k2 : x.k = 2
  · simp [k2] at h
    have := hd h.2.2.2
    exact ⟨⟨by omega, by omega, by omega, by omega, by omega, by omega⟩, .inr (.inl k2)⟩
  by_cases k3 : x.k = 3
  · simp [k3] at h
    have := hd h.2.2.2
    exact ⟨⟨by omega, by omega, by omega, by omega, by omega, by omega⟩, .inr (.inr (.inl ⟨k3, by omega⟩))⟩
  by_cases k4 : x.k = 4
  · simp [k4] at h
    exact ⟨⟨by omega, by omega, by omega, by omega, by omega, by omega⟩, .inr (.inr (.inr (.inl k4)))⟩
  by_cases k5 : x.k = 5
  · simp [k5] at h
    have := hd h.2.2.1
    refine ⟨⟨by omega, ?_, by omega, by omega, by omega, by omega⟩, .inr (.inr (.inr (.inr k5)))⟩
    have h4 := h.2.2.2
    split at h4 <;> omega
  simp [k1, k2, k3, k4, k5] at h
/-- Where the counting goes through, the next event is valid. -/
theorem val_at {l : List Ev} {k : Nat} {m : Int} {x : Ev} (h : (cntE m (l.drop k)).isSome = true) (hx : l[k]? = some x) : valE m x = true ∧ aftE m x ≤ 12 ∧ (cntE (aftE m x) (l.drop (k + 1))).isSome = true := by
  rw [drop_of_get hx, cntE] at h
  by_cases hv : valE m x = true ∧ aftE m x ≤ 12
  · rw [if_pos hv] at h
    exact ⟨hv.1, hv.2, h⟩
  · rw [if_neg hv] at h
    simp at h
theorem okEvs_cnt {l : List Ev} (h : okEvs l = true) : (cntE 0 (l.drop 0)).isSome = true ∧ l.length ≤ 2000 := by
  unfold okEvs at h
  simp at h
  exact ⟨by simpa using h.1, h.2⟩

theorem mirE_k1 {n : Int} {x : Ev} (h : x.k = 1) : mirE n x = ⟨x.k, n - 2 - x.p, -x.c, x.b, x.y, -x.d⟩ := by simp [mirE, h]
theorem mirE_k0 {n : Int} {x : Ev} (h : x.k ≠ 1) : mirE n x = ⟨x.k, n - x.p - x.c, x.c, x.b, x.y, -x.d⟩ := by simp [mirE, h]

set_option maxHeartbeats 8000000 in
set_option maxRecDepth 100000 in
theorem implMirror_any (v : Value) (l : List Ev) (w : World) (hl : RdE w w.heap.size v l) (_ : l.length ≤ 1048576) :
    Calls Try.prog 48 #[v] w (GivesC w 68 6 (mirL l).length (vE (mirL l)) (mirC l)) := by
  have HL := Lib.hid hl
  cases hok : okEvs l
  · clear hl
    have HK := Lib.hid (mir_bad hok)
    have HO := Lib.hid hok
    clear hok
    go_enter Try.func48, Try.ntmps48
    go_wp2_with fail
    refine (implValidEvents_any _ l _ _ HL.out (Nat.le_refl _)).mono ?_
    rintro e w1 ⟨rfl, hb1⟩
    rw [HO.out]
    have HB := Lib.hid hb1
    clear hb1
    go_wp2
    go_ret2
    rw [HK.out.1, HK.out.2]
    exact ⟨_, rfl, .nil, HB.out⟩
  obtain ⟨A, n, c, rfl, hln, hl, gl⟩ := hl
  obtain ⟨hcnt, hn0⟩ := okEvs_cnt hok
  have hn : n ≤ 2000 := by have := hl.out; omega
  clear hn0
  obtain ⟨i0, hi, hz0, hz1, hz2⟩ := info_parts info_ev
  have HOK := Lib.hid hok
  have HC := Lib.hid hcnt
  have HR := Lib.hid (rfl : mirG [] 0 l = mirG [] 0 l)
  generalize hR : mirG [] 0 l = R at HR
  have HRR := Lib.hid hR
  clear hok hcnt HR hR
  have GL := Lib.hid gl
  clear gl
  go_enter Try.func48, Try.ntmps48
  go_wp2_with fail
  refine (implValidEvents_any _ l _ _ HL.out (Nat.le_refl _)).mono ?_
  rintro e w1 ⟨rfl, hb1⟩
  rw [HOK.out]
  have HB1 := Lib.hid hb1
  clear hb1
  go_wp2
  go_loopw [4, 5, 15] (fun t m i wr => ∃ (k : Nat) (acc : List Ev) (n' : Int), k ≤ n ∧ i = .int .i64 k ∧ m = .int .i64 n' ∧ 0 ≤ n' ∧ n' ≤ 12 ∧ wr.ownsRow w.heap.size 68 6 t acc.length (vE acc) ∧ acc.length ≤ k ∧ Hid (R = mirG acc n' (l.drop k)) ∧ Hid ((cntE n' (l.drop k)).isSome = true) ∧ Below w.heap.size w wr) (fun _ _ i _ => n - (intOf i).toNat)
  case atStart => exact ⟨0, [], 0, Nat.zero_le _, rfl, rfl, by omega, by omega, World.ownsRow_lit _ _ _ (by have := HB1.out.size; omega) (by unfold maxLen; omega) rfl, Nat.le_refl _, HRR.out.symm, HC.out, HB1.out.alloc (by have := HB1.out.size; omega) _⟩
  case round =>
    rename_i wr
    obtain ⟨k, acc, n', hk, rfl, rfl, n0, n1, hown, hak, hd, hc', hb⟩ := hrel
    by_cases hlt : k < n
    · obtain ⟨b, off, x, rfl, hbb, hlk, hc⟩ := GL.out k hlt
      obtain ⟨c0, c1, c2, c3, c4, c5⟩ := (hc.below hb hbb).six
      obtain ⟨hv, ha, hcn⟩ := val_at hc'.out hlk
      obtain ⟨a0, -⟩ := aft_bounds n0 n1 hv
      obtain ⟨⟨p0, p1, q0, q1, d0, d1⟩, hkk⟩ := tame_of n1 hv
      have HV := Lib.hid hv
      have HB := Lib.hid hb
      have Hl := Lib.hid hlk
      have HO := Lib.hid hown
      have HCN := Lib.hid hcn
      clear hc hb hlk hown hc' hv hcn
      by_cases h5 : x.k = 5
      · have HN := Lib.hid (mir_none HOK.out (HRR.out.trans (mir_no hd.out Hl.out h5)))
        go_wp2
        go_ret2
        rw [HN.out.1, HN.out.2]
        exact ⟨_, rfl, .nil, (HB.out.alloc HB.out.size _).alloc (by have := HB.out.size; simp; omega) _⟩
      · have HD := Lib.hid (mir_yes hd.out Hl.out h5)
        obtain ⟨k_, p, q, bd, y, d⟩ := x
        simp only at p0 p1 q0 q1 d0 d1 hkk h5 c0 c1 c2 c3 c4 c5
        rcases hkk with rfl | rfl | ⟨rfl, rfl⟩ | rfl | rfl
        /- one step of impl.MirrorEvents: kind 1, the event ⟨1, p, q, bd, y, d⟩, its image ⟨1, n' - 2 - p, -q, bd, y, -d⟩ -/
        · go_wp2_with (at_builtin; refine wpList_append_own _ rfl _ _ 32 rfl w.heap.size 68 i0 _ 6 48 Try.underlying32 hi hz0 hz1 hz2 rfl (by decide) _ _ _ rfl (((HO.out.alloc _).alloc _).alloc _) ⟨wr.heap.size + 1 + 1, 0, none⟩ 1 1 (⟨1, n' - 2 - p, -q, bd, y, -d⟩ : Ev).cells rfl rfl ?c1 ?c2 ?c3 ?c4 ?c5 ?_)
          case c1 => exact new_cells' _ _ (by simp)
          case c2 => exact cells_one _
          case c3 => unfold maxLen; omega
          case c4 => omega
          case c5 => have := HB.out.size; simp; omega
          intro v' w2 hown2 hgrow2 _
          have hc2 : ∀ o, w2.cell? ⟨wr.heap.size, o, none⟩ = _ := fun o => World.cell?_of_block (hgrow2.block wr.heap.size (by simp; omega) (fun e => by have := (HO.out.lt _ e.symm).2; omega))
          have hd2 := CellsAt.six (w := w2) (b := wr.heap.size) (o := 0) (u0 := .int .i64 (⟨1, p, q, bd, y, d⟩ : Ev).k) (u1 := .int .i64 (⟨1, p, q, bd, y, d⟩ : Ev).p) (u2 := .int .i64 (⟨1, p, q, bd, y, d⟩ : Ev).c) (u3 := .int .i64 (⟨1, p, q, bd, y, d⟩ : Ev).b) (u4 := .int .i64 (⟨1, p, q, bd, y, d⟩ : Ev).y) (u5 := .int .i64 (⟨1, p, q, bd, y, d⟩ : Ev).d) (by
            intro j u hu
            rw [hc2]
            rcases j with _ | _ | _ | _ | _ | _ | j <;> simp at hu <;> subst hu <;> simp [go_sem])
          obtain ⟨t0, t1, t2, t3, t4, t5⟩ := hd2
          have HB1 := Lib.hid (below_append' (((HB.out.alloc HB.out.size _).alloc (by have := HB.out.size; simp; omega) _).alloc (by have := HB.out.size; simp; omega) _) (by have := HB.out.size; simp; omega) HO.out (by simp; omega) hgrow2)
          have HO1 : Hid (w2.ownsRow w.heap.size 68 6 v' (acc ++ [mirE n' ⟨1, p, q, bd, y, d⟩]).length (vE (acc ++ [mirE n' ⟨1, p, q, bd, y, d⟩]))) := by
            unfold Hid
            rw [vE_snoc, List.length_append]
            have hm : (mirE n' ⟨1, p, q, bd, y, d⟩).cells = (⟨1, n' - 2 - p, -q, bd, y, -d⟩ : Ev).cells := by simp [mirE]
            rw [hm]
            exact hown2
          clear hgrow2 hown2 hc2 HB HO
          go_wp2_with fail
          refine (after_any ⟨1, p, q, bd, y, d⟩ n' n0 n1 HV.out _).mono ?_
          rintro e w3 ⟨rfl, hb3⟩
          have HB3 := Lib.hid (HB1.out.trans (hb3.mono HB1.out.size))
          have HO3 := Lib.hid (own_below HO1.out hb3)
          clear hb3 HB1 HO1
          go_wp2
          exact ⟨⟨k + 1, acc ++ [mirE n' ⟨1, p, q, bd, y, d⟩], aftE n' ⟨1, p, q, bd, y, d⟩, by omega, by go_num, rfl, a0, ha, HO3.out, by simp; omega, HD.out, HCN.out, HB3.out⟩, by simp [intOf]; omega⟩
        /- one step of impl.MirrorEvents: kind 2, the event ⟨2, p, q, bd, y, d⟩, its image ⟨2, n' - p - q, q, bd, y, -d⟩ -/
        · go_wp2_with (at_builtin; refine wpList_append_own _ rfl _ _ 32 rfl w.heap.size 68 i0 _ 6 48 Try.underlying32 hi hz0 hz1 hz2 rfl (by decide) _ _ _ rfl (((HO.out.alloc _).alloc _).alloc _) ⟨wr.heap.size + 1 + 1, 0, none⟩ 1 1 (⟨2, n' - p - q, q, bd, y, -d⟩ : Ev).cells rfl rfl ?c1 ?c2 ?c3 ?c4 ?c5 ?_)
          case c1 => exact new_cells' _ _ (by simp)
          case c2 => exact cells_one _
          case c3 => unfold maxLen; omega
          case c4 => omega
          case c5 => have := HB.out.size; simp; omega
          intro v' w2 hown2 hgrow2 _
          have hc2 : ∀ o, w2.cell? ⟨wr.heap.size, o, none⟩ = _ := fun o => World.cell?_of_block (hgrow2.block wr.heap.size (by simp; omega) (fun e => by have := (HO.out.lt _ e.symm).2; omega))
          have hd2 := CellsAt.six (w := w2) (b := wr.heap.size) (o := 0) (u0 := .int .i64 (⟨2, p, q, bd, y, d⟩ : Ev).k) (u1 := .int .i64 (⟨2, p, q, bd, y, d⟩ : Ev).p) (u2 := .int .i64 (⟨2, p, q, bd, y, d⟩ : Ev).c) (u3 := .int .i64 (⟨2, p, q, bd, y, d⟩ : Ev).b) (u4 := .int .i64 (⟨2, p, q, bd, y, d⟩ : Ev).y) (u5 := .int .i64 (⟨2, p, q, bd, y, d⟩ : Ev).d) (by
            intro j u hu
            rw [hc2]
            rcases j with _ | _ | _ | _ | _ | _ | j <;> simp at hu <;> subst hu <;> simp [go_sem])
          obtain ⟨t0, t1, t2, t3, t4, t5⟩ := hd2
          have HB1 := Lib.hid (below_append' (((HB.out.alloc HB.out.size _).alloc (by have := HB.out.size; simp; omega) _).alloc (by have := HB.out.size; simp; omega) _) (by have := HB.out.size; simp; omega) HO.out (by simp; omega) hgrow2)
          have HO1 : Hid (w2.ownsRow w.heap.size 68 6 v' (acc ++ [mirE n' ⟨2, p, q, bd, y, d⟩]).length (vE (acc ++ [mirE n' ⟨2, p, q, bd, y, d⟩]))) := by
            unfold Hid
            rw [vE_snoc, List.length_append]
            have hm : (mirE n' ⟨2, p, q, bd, y, d⟩).cells = (⟨2, n' - p - q, q, bd, y, -d⟩ : Ev).cells := by simp [mirE]
            rw [hm]
            exact hown2
          clear hgrow2 hown2 hc2 HB HO
          go_wp2_with fail
          refine (after_any ⟨2, p, q, bd, y, d⟩ n' n0 n1 HV.out _).mono ?_
          rintro e w3 ⟨rfl, hb3⟩
          have HB3 := Lib.hid (HB1.out.trans (hb3.mono HB1.out.size))
          have HO3 := Lib.hid (own_below HO1.out hb3)
          clear hb3 HB1 HO1
          go_wp2
          exact ⟨⟨k + 1, acc ++ [mirE n' ⟨2, p, q, bd, y, d⟩], aftE n' ⟨2, p, q, bd, y, d⟩, by omega, by go_num, rfl, a0, ha, HO3.out, by simp; omega, HD.out, HCN.out, HB3.out⟩, by simp [intOf]; omega⟩
        /- one step of impl.MirrorEvents: kind 3, the event ⟨3, p, 0, bd, y, d⟩, its image ⟨3, n' - p, 0, bd, y, -d⟩ -/
        · go_wp2_with (at_builtin; refine wpList_append_own _ rfl _ _ 32 rfl w.heap.size 68 i0 _ 6 48 Try.underlying32 hi hz0 hz1 hz2 rfl (by decide) _ _ _ rfl (((HO.out.alloc _).alloc _).alloc _) ⟨wr.heap.size + 1 + 1, 0, none⟩ 1 1 (⟨3, n' - p, 0, bd, y, -d⟩ : Ev).cells rfl rfl ?c1 ?c2 ?c3 ?c4 ?c5 ?_)
          case c1 => exact new_cells' _ _ (by simp)
          case c2 => exact cells_one _
          case c3 => unfold maxLen; omega
          case c4 => omega
          case c5 => have := HB.out.size; simp; omega
          intro v' w2 hown2 hgrow2 _
          have hc2 : ∀ o, w2.cell? ⟨wr.heap.size, o, none⟩ = _ := fun o => World.cell?_of_block (hgrow2.block wr.heap.size (by simp; omega) (fun e => by have := (HO.out.lt _ e.symm).2; omega))
          have hd2 := CellsAt.six (w := w2) (b := wr.heap.size) (o := 0) (u0 := .int .i64 (⟨3, p, 0, bd, y, d⟩ : Ev).k) (u1 := .int .i64 (⟨3, p, 0, bd, y, d⟩ : Ev).p) (u2 := .int .i64 (⟨3, p, 0, bd, y, d⟩ : Ev).c) (u3 := .int .i64 (⟨3, p, 0, bd, y, d⟩ : Ev).b) (u4 := .int .i64 (⟨3, p, 0, bd, y, d⟩ : Ev).y) (u5 := .int .i64 (⟨3, p, 0, bd, y, d⟩ : Ev).d) (by
            intro j u hu
            rw [hc2]
            rcases j with _ | _ | _ | _ | _ | _ | j <;> simp at hu <;> subst hu <;> simp [go_sem])
          obtain ⟨t0, t1, t2, t3, t4, t5⟩ := hd2
          have HB1 := Lib.hid (below_append' (((HB.out.alloc HB.out.size _).alloc (by have := HB.out.size; simp; omega) _).alloc (by have := HB.out.size; simp; omega) _) (by have := HB.out.size; simp; omega) HO.out (by simp; omega) hgrow2)
          have HO1 : Hid (w2.ownsRow w.heap.size 68 6 v' (acc ++ [mirE n' ⟨3, p, 0, bd, y, d⟩]).length (vE (acc ++ [mirE n' ⟨3, p, 0, bd, y, d⟩]))) := by
            unfold Hid
            rw [vE_snoc, List.length_append]
            have hm : (mirE n' ⟨3, p, 0, bd, y, d⟩).cells = (⟨3, n' - p, 0, bd, y, -d⟩ : Ev).cells := by simp [mirE]
            rw [hm]
            exact hown2
          clear hgrow2 hown2 hc2 HB HO
          go_wp2_with fail
          refine (after_any ⟨3, p, 0, bd, y, d⟩ n' n0 n1 HV.out _).mono ?_
          rintro e w3 ⟨rfl, hb3⟩
          have HB3 := Lib.hid (HB1.out.trans (hb3.mono HB1.out.size))
          have HO3 := Lib.hid (own_below HO1.out hb3)
          clear hb3 HB1 HO1
          go_wp2
          exact ⟨⟨k + 1, acc ++ [mirE n' ⟨3, p, 0, bd, y, d⟩], aftE n' ⟨3, p, 0, bd, y, d⟩, by omega, by go_num, rfl, a0, ha, HO3.out, by simp; omega, HD.out, HCN.out, HB3.out⟩, by simp [intOf]; omega⟩
        /- one step of impl.MirrorEvents: kind 4, the event ⟨4, p, q, bd, y, d⟩, its image ⟨4, n' - p - q, q, bd, y, -d⟩ -/
        · go_wp2_with (at_builtin; refine wpList_append_own _ rfl _ _ 32 rfl w.heap.size 68 i0 _ 6 48 Try.underlying32 hi hz0 hz1 hz2 rfl (by decide) _ _ _ rfl (((HO.out.alloc _).alloc _).alloc _) ⟨wr.heap.size + 1 + 1, 0, none⟩ 1 1 (⟨4, n' - p - q, q, bd, y, -d⟩ : Ev).cells rfl rfl ?c1 ?c2 ?c3 ?c4 ?c5 ?_)
          case c1 => exact new_cells' _ _ (by simp)
          case c2 => exact cells_one _
          case c3 => unfold maxLen; omega
          case c4 => omega
          case c5 => have := HB.out.size; simp; omega
          intro v' w2 hown2 hgrow2 _
          have hc2 : ∀ o, w2.cell? ⟨wr.heap.size, o, none⟩ = _ := fun o => World.cell?_of_block (hgrow2.block wr.heap.size (by simp; omega) (fun e => by have := (HO.out.lt _ e.symm).2; omega))
          have hd2 := CellsAt.six (w := w2) (b := wr.heap.size) (o := 0) (u0 := .int .i64 (⟨4, p, q, bd, y, d⟩ : Ev).k) (u1 := .int .i64 (⟨4, p, q, bd, y, d⟩ : Ev).p) (u2 := .int .i64 (⟨4, p, q, bd, y, d⟩ : Ev).c) (u3 := .int .i64 (⟨4, p, q, bd, y, d⟩ : Ev).b) (u4 := .int .i64 (⟨4, p, q, bd, y, d⟩ : Ev).y) (u5 := .int .i64 (⟨4, p, q, bd, y, d⟩ : Ev).d) (by
            intro j u hu
            rw [hc2]
            rcases j with _ | _ | _ | _ | _ | _ | j <;> simp at hu <;> subst hu <;> simp [go_sem])
          obtain ⟨t0, t1, t2, t3, t4, t5⟩ := hd2
          have HB1 := Lib.hid (below_append' (((HB.out.alloc HB.out.size _).alloc (by have := HB.out.size; simp; omega) _).alloc (by have := HB.out.size; simp; omega) _) (by have := HB.out.size; simp; omega) HO.out (by simp; omega) hgrow2)
          have HO1 : Hid (w2.ownsRow w.heap.size 68 6 v' (acc ++ [mirE n' ⟨4, p, q, bd, y, d⟩]).length (vE (acc ++ [mirE n' ⟨4, p, q, bd, y, d⟩]))) := by
            unfold Hid
            rw [vE_snoc, List.length_append]
            have hm : (mirE n' ⟨4, p, q, bd, y, d⟩).cells = (⟨4, n' - p - q, q, bd, y, -d⟩ : Ev).cells := by simp [mirE]
            rw [hm]
            exact hown2
          clear hgrow2 hown2 hc2 HB HO
          go_wp2_with fail
          refine (after_any ⟨4, p, q, bd, y, d⟩ n' n0 n1 HV.out _).mono ?_
          rintro e w3 ⟨rfl, hb3⟩
          have HB3 := Lib.hid (HB1.out.trans (hb3.mono HB1.out.size))
          have HO3 := Lib.hid (own_below HO1.out hb3)
          clear hb3 HB1 HO1
          go_wp2
          exact ⟨⟨k + 1, acc ++ [mirE n' ⟨4, p, q, bd, y, d⟩], aftE n' ⟨4, p, q, bd, y, d⟩, by omega, by go_num, rfl, a0, ha, HO3.out, by simp; omega, HD.out, HCN.out, HB3.out⟩, by simp [intOf]; omega⟩
        · exact absurd rfl h5
    · have HB := Lib.hid hb
      have HO := Lib.hid hown
      have HN := Lib.hid (mir_some HOK.out (HRR.out.trans (show R = some acc by rw [hd.out, List.drop_of_length_le (by have := hl.out; omega)]; rfl)))
      clear hb hown
      go_wp2
      go_ret2
      rw [HN.out.1, HN.out.2]
      exact ⟨_, rfl, OwC.of_own HO.out, HB.out⟩

set_option maxHeartbeats 8000000 in
set_option maxRecDepth 100000 in
theorem specMirror_any (v : Value) (l : List Ev) (w : World) (hl : RdE w w.heap.size v l) (_ : l.length ≤ 1048576) :
    Calls Try.prog 47 #[v] w (GivesC w 68 6 (mirL l).length (vE (mirL l)) (mirC l)) := by
  have HL := Lib.hid hl
  cases hok : okEvs l
  · clear hl
    have HK := Lib.hid (mir_bad hok)
    have HO := Lib.hid hok
    clear hok
    go_enter Try.func47, Try.ntmps47
    go_wp2_with fail
    refine (l10Count_any _ l _ _ HL.out (Nat.le_refl _)).mono ?_
    rintro e w1 ⟨rfl, hb1⟩
    rw [HO.out]
    have HB := Lib.hid hb1
    clear hb1
    go_wp2
    go_ret2
    rw [HK.out.1, HK.out.2]
    exact ⟨_, rfl, .nil, HB.out⟩
  obtain ⟨A, n, c, rfl, hln, hl, gl⟩ := hl
  obtain ⟨hcnt, hn0⟩ := okEvs_cnt hok
  have hn : n ≤ 2000 := by have := hl.out; omega
  clear hn0
  obtain ⟨i0, hi, hz0, hz1, hz2⟩ := info_parts info_ev
  have HOK := Lib.hid hok
  have HC := Lib.hid hcnt
  have HR := Lib.hid (rfl : mirG [] 0 l = mirG [] 0 l)
  generalize hR : mirG [] 0 l = R at HR
  have HRR := Lib.hid hR
  clear hok hcnt HR hR
  have GL := Lib.hid gl
  clear gl
  go_enter Try.func47, Try.ntmps47
  go_wp2_with fail
  refine (l10Count_any _ l _ _ HL.out (Nat.le_refl _)).mono ?_
  rintro e w1 ⟨rfl, hb1⟩
  rw [HOK.out]
  have HB1 := Lib.hid hb1
  clear hb1
  go_wp2
  go_loopw [6, 7, 8] (fun t m i wr => ∃ (k : Nat) (acc : List Ev) (n' : Int), k ≤ n ∧ i = .int .i64 k ∧ m = .int .i64 n' ∧ 0 ≤ n' ∧ n' ≤ 12 ∧ wr.ownsRow w.heap.size 68 6 t acc.length (vE acc) ∧ acc.length ≤ k ∧ Hid (R = mirG acc n' (l.drop k)) ∧ Hid ((cntE n' (l.drop k)).isSome = true) ∧ Below w.heap.size w wr) (fun _ _ i _ => n - (intOf i).toNat)
  case atStart => exact ⟨0, [], 0, Nat.zero_le _, rfl, rfl, by omega, by omega, World.ownsRow_lit _ _ _ (by have := HB1.out.size; omega) (by unfold maxLen; omega) rfl, Nat.le_refl _, HRR.out.symm, HC.out, HB1.out.alloc (by have := HB1.out.size; omega) _⟩
  case round =>
    rename_i wr
    obtain ⟨k, acc, n', hk, rfl, rfl, n0, n1, hown, hak, hd, hc', hb⟩ := hrel
    by_cases hlt : k < n
    · obtain ⟨b, off, x, rfl, hbb, hlk, hc⟩ := GL.out k hlt
      obtain ⟨c0, c1, c2, c3, c4, c5⟩ := (hc.below hb hbb).six
      obtain ⟨hv, ha, hcn⟩ := val_at hc'.out hlk
      obtain ⟨a0, -⟩ := aft_bounds n0 n1 hv
      obtain ⟨tm, hkk⟩ := tame_of n1 hv
      have HT := Lib.hid tm
      have HV := Lib.hid hv
      have HB := Lib.hid hb
      have Hl := Lib.hid hlk
      have HO := Lib.hid hown
      have HCN := Lib.hid hcn
      clear hc hb hlk hown hc' hv hcn tm
      by_cases h5 : x.k = 5
      · have HN := Lib.hid (mir_none HOK.out (HRR.out.trans (mir_no hd.out Hl.out h5)))
        go_wp2
        go_ret2
        rw [HN.out.1, HN.out.2]
        exact ⟨_, rfl, .nil, HB.out.alloc HB.out.size _⟩
      · have HD := Lib.hid (mir_yes hd.out Hl.out h5)
        have hkk' : Hid (x.k = 1 ∨ x.k = 2 ∨ (x.k = 3 ∧ x.c = 0) ∨ x.k = 4) := by unfold Hid; rcases hkk with h | h | h | h | h <;> simp_all
        have hk5 : (x.k == 5) = false := by simpa using h5
        clear hkk h5
        go_wp2_with fail
        refine (l13Mirror_any x n' n0 n1 HT.out hkk'.out _).mono ?_
        rintro e w2 ⟨rfl, hb2⟩
        have HB2 := Lib.hid hb2
        clear hb2
        have hcc := Lib.hid (bcell HB2.out).1
        go_wp2_with (at_builtin; refine wpList_append_own _ rfl _ _ 32 rfl w.heap.size 68 i0 _ 6 48 Try.underlying32 hi hz0 hz1 hz2 rfl (by decide) _ _ _ rfl ((own_below (HO.out.alloc _) HB2.out).alloc _) ⟨w2.heap.size, 0, none⟩ 1 1 (mirE n' x).cells rfl rfl ?c1 ?c2 ?c3 ?c4 ?c5 ?_)
        case c1 => exact new_cells' _ _ rfl
        case c2 => exact cells_one _
        case c3 => unfold maxLen; omega
        case c4 => omega
        case c5 => have := HB.out.size; have := HB2.out.size; simp at this ⊢; omega
        intro v' w3 hown3 hgrow3 _
        have hc2 : ∀ o, w3.cell? ⟨wr.heap.size, o, none⟩ = _ := fun o => (World.cell?_of_block (hgrow3.block wr.heap.size (by have := HB2.out.size; simp at this ⊢; omega) (fun e => by have := (HO.out.lt _ e.symm).2; omega))).trans ((World.cell?_alloc_lt _ _ _ (by have := HB2.out.size; simp at this ⊢; omega)).trans (hcc.out wr.heap.size o (by simp)))
        have hd2 : CellsAt w3 wr.heap.size 0 x.cells := by
          intro j u hu
          rw [hc2]
          rcases j with _ | _ | _ | _ | _ | _ | j <;> simp at hu <;> subst hu <;> simp [go_sem]
        have HCC := Lib.hid hd2
        have HB3 := Lib.hid (below_append' (((HB.out.alloc HB.out.size _).trans (HB2.out.mono (by have := HB.out.size; simp; omega))).alloc (by have := HB.out.size; have := HB2.out.size; simp at this ⊢; omega) _) (by have := HB.out.size; have := HB2.out.size; simp at this ⊢; omega) HO.out (by have := HB2.out.size; simp at this ⊢; omega) hgrow3)
        have HO3 : Hid (w3.ownsRow w.heap.size 68 6 v' (acc ++ [mirE n' x]).length (vE (acc ++ [mirE n' x]))) := by unfold Hid; rw [vE_snoc, List.length_append]; exact hown3
        clear hgrow3 hown3 hc2 HB HO hcc HB2 hd2
        go_wp2_with fail
        refine (l10Event_any x n' n0 n1 _ _ _ HCC.out).mono ?_
        rintro e w4 ⟨q, rfl, hq, hb4⟩
        rw [HV.out]
        obtain rfl := hq HV.out
        have HB4 := Lib.hid (HB3.out.trans (hb4.mono HB3.out.size))
        have HO4 := Lib.hid (own_below HO3.out hb4)
        clear hb4 HB3 HO3 hq
        go_wp2
        exact ⟨⟨k + 1, acc ++ [mirE n' x], aftE n' x, by omega, by go_num, rfl, a0, ha, HO4.out, by simp; omega, HD.out, HCN.out, HB4.out⟩, by simp [intOf]; omega⟩
    · have HB := Lib.hid hb
      have HO := Lib.hid hown
      have HN := Lib.hid (mir_some HOK.out (HRR.out.trans (show R = some acc by rw [hd.out, List.drop_of_length_le (by have := hl.out; omega)]; rfl)))
      clear hb hown
      go_wp2
      go_ret2
      rw [HN.out.1, HN.out.2]
      exact ⟨_, rfl, OwC.of_own HO.out, HB.out⟩

end Go.Proofs.Ytmgicdcpeblpnaa
