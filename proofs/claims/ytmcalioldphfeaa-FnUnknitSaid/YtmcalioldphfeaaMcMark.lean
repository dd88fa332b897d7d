/-
  What the laws' marks do to a machine that is a call's own: only its own rows turn.
-/
import Derived.Test.YtmcalioldphfeaaMcTo
namespace Go.Proofs.Ytmcalioldphfeaa
set_option linter.unusedVariables false
set_option linter.unusedSimpArgs false
open Go.RowKit

def sumL {α : Type} (f : α → Nat) (l : List α) : Nat := (l.map f).sum
theorem sumL_drop {α : Type} {f : α → Nat} {l : List α} {k : Nat} {x : α} (h : l[k]? = some x) : sumL f (l.drop k) = f x + sumL f (l.drop (k + 1)) := by
  unfold sumL
  rw [drop_of_get h, List.map_cons, List.sum_cons]
theorem Only.keepOw {w w' : World} {lo hi a b E sz n : Nat} {v : Value} {xs : List Value} (h : OwC w a b E sz v n xs) (hw : Only lo hi w w') (hd : b ≤ lo ∨ hi ≤ a) (hs : b ≤ w.heap.size) : OwC w' a b E sz v n xs := h.only hw hd hs

theorem rowIs_only {w w' : World} {g t n : Nat} {f : Nat → Value} {lo hi : Nat} (h : w.rowIs g t n f) (hw : Only lo hi w w') (hd : g < lo ∨ hi ≤ g) (hs : g < w.heap.size) : w'.rowIs g t n f := by
  obtain ⟨cur, h1, h2, h3⟩ := h
  exact ⟨cur, (hw.block g hs hd).trans h1, h2, h3⟩

theorem rowIs_set5 {w : World} {b t n : Nat} {f : Nat → Value} (h : w.rowIs b t n f) (o : Nat) (u0 u1 u2 u3 u4 : Value) :
    (((((w.setCell ⟨b, o, none⟩ u0).setCell ⟨b, o + 1, none⟩ u1).setCell ⟨b, o + 2, none⟩ u2).setCell ⟨b, o + 3, none⟩ u3).setCell ⟨b, o + 4, none⟩ u4).rowIs b t n
      (fun j => if j = o + 4 then u4 else if j = o + 3 then u3 else if j = o + 2 then u2 else if j = o + 1 then u1 else if j = o then u0 else f j) :=
  ((((h.set _ _).set _ _).set _ _).set _ _).set _ _
def put5 (o : Nat) (u0 u1 u2 u3 u4 : Value) (f : Nat → Value) (j : Nat) : Value := if j = o + 4 then u4 else if j = o + 3 then u3 else if j = o + 2 then u2 else if j = o + 1 then u1 else if j = o then u0 else f j
theorem put5_keep {f f2 : Nat → Value} {n k : Nat} (h : ∀ j, j < n → f2 (j * 6 + 5) = f (j * 6 + 5)) (u0 u1 u2 u3 u4 : Value) : ∀ j, j < n → put5 (k * 6) u0 u1 u2 u3 u4 f2 (j * 6 + 5) = f (j * 6 + 5) := by
  intro j hj
  unfold put5
  rw [if_neg (by omega), if_neg (by omega), if_neg (by omega), if_neg (by omega), if_neg (by omega), h j hj]
theorem CellsAt.only {w w' : World} {lo hi b o : Nat} {us : List Value} (h : CellsAt w b o us) (hw : Only lo hi w w') (hd : b < lo ∨ hi ≤ b) (hs : b < w.heap.size) : CellsAt w' b o us :=
  h.keep fun _ => World.cell?_of_block (hw.block b hs hd)

set_option maxHeartbeats 4000000 in
set_option maxRecDepth 100000 in
theorem markLL_any (v : Value) (l : List (List Int)) (K : Int) (w : World) (lo hi : Nat) (ho : OwN oLL 25 1 w lo hi v l) (hh : hi ≤ w.heap.size) (hK : 0 ≤ K) (hn : K + (sumL List.length l : Int) ≤ 1000000000000) :
    Calls Try.prog 51 #[v, .int .i64 K] w fun e w' => e = .returned (.int .i64 (K + (sumL List.length l : Int))) ∧ Only lo hi w w' := by
  obtain ⟨o0, o1, a, b, f, g0, g1, g2, g3, g4, g5⟩ := ho
  obtain ⟨A, c, rfl, hbig, -⟩ := g4.cells
  have HO := Lib.hid g4
  have HG := Lib.hid g5
  have H2 := Lib.hid g2
  have H3 := Lib.hid g3
  generalize hT : K + (sumL List.length l : Int) = T at *
  have HT := Lib.hid (show K + (sumL List.length (l.drop 0) : Int) = T from hT)
  clear g4 g5 g2 g3 hT
  generalize hl : l.length = n at *
  have HL := Lib.hid hl
  clear hl
  go_enter Try.func51, Try.ntmps51
  go_wp2
  go_loopw [1, 5] (fun t i wr => ∃ (k : Nat) (z : Int), k ≤ n ∧ i = .int .i64 k ∧ t = .int .i64 z ∧ 0 ≤ z ∧ Hid (z + (sumL List.length (l.drop k) : Int) = T) ∧ Hid (OwC wr o0 o1 25 1 (.slice A n c) n ((List.range (n * 1)).map f)) ∧
    Hid (∀ j x, k ≤ j → l[j]? = some x → oLL wr (a j) (b j) ((List.range 1).map fun q => f (j * 1 + q)) x) ∧ Only lo hi w wr) (fun _ i _ => n - (intOf i).toNat)
  case atStart => exact ⟨0, K, Nat.zero_le _, rfl, rfl, hK, HT.out, HO.out, fun j x _ hx => HG.out j x hx, Only.refl _ _ _⟩
  case round =>
    rename_i wr
    obtain ⟨k, z, hk, rfl, rfl, z0, hz, how, hg, hon⟩ := hrel
    by_cases hlt : k < n
    · have hx : l[k]? = some (l[k]'(by rw [HL.out]; exact hlt)) := List.getElem?_eq_getElem _
      obtain ⟨x, hxe⟩ : ∃ x, x = l[k]'(by rw [HL.out]; exact hlt) := ⟨_, rfl⟩
      rw [← hxe] at hx
      obtain ⟨s, hs, hos⟩ := hg.out k x (Nat.le_refl _) hx
      simp at hs
      obtain ⟨A', c', e', -, hcell⟩ := how.out.cells
      injection e' with q1 _ q3
      subst q1 q3
      obtain ⟨g, rfl, hg0, hg1, -, hcc⟩ := hcell k hlt
      have hck := hcc k s (by omega) (by simp [hlt, hs])
      obtain ⟨A2, c2, rfl, -⟩ := hos.cells
      have hsm := sumL_drop (f := List.length) hx
      have hzb : z + ((x.length : Nat) : Int) + (sumL List.length (l.drop (k + 1)) : Int) = T := by rw [← hz.out, hsm]; omega
      have HZ := Lib.hid hzb
      have HOS := Lib.hid hos
      have HON := Lib.hid hon
      obtain ⟨w1, w2, w3⟩ := H2.out k hlt
      have hzz : z + ((x.length : Nat) : Int) ≤ 1000000000000 := by omega
      clear hx hxe hs hos hcell hcc hz hon hsm hzb
      go_wp2_with fail
      refine (markI_any _ _ _ _ _ _ _ HOS.out z0 hzz).mono ?_
      rintro e wn ⟨rfl, hmo, hmw⟩
      have hsz := HON.out.size
      have hbk : ∀ j x, k + 1 ≤ j → l[j]? = some x → oLL wn (a j) (b j) ((List.range 1).map fun q => f (j * 1 + q)) x := by
        intro j y hj hy
        have hjn : j < n := by rw [← HL.out]; exact (List.getElem?_eq_some_iff.1 hy).1
        obtain ⟨s', h1, h2⟩ := hg.out j y (by omega) hy
        have h3 := H2.out j hjn
        refine ⟨s', h1, h2.only hmw ?_ (by omega)⟩
        rcases H3.out k j hlt hjn (by omega) with h | h
        · exact .inr h
        · exact .inl h
      have HBK := Lib.hid hbk
      have HOW := Lib.hid (how.out.only hmw (by omega) (by omega))
      have HMW := Lib.hid (HON.out.trans (hmw.wide w1 w2))
      clear hbk hmo hmw
      go_wp2
      exact ⟨⟨k + 1, z + ((x.length : Nat) : Int), by omega, by go_num, rfl, by omega, HZ.out, HOW.out, HBK.out, HMW.out⟩, by simp [intOf]; omega⟩
    · have HON := Lib.hid hon
      have HZ := Lib.hid (show z = T by rw [← hz.out, List.drop_of_length_le (by have := HL.out; omega)]; simp [sumL])
      clear hon hz
      go_wp2
      go_ret
      exact ⟨ret_int HZ.out, HON.out⟩

set_option maxHeartbeats 4000000 in
set_option maxRecDepth 100000 in
theorem markCs_any (v : Value) (n : Nat) (xs : List Value) (K : Int) (w : World) (lo hi : Nat) (ho : OwC w lo hi 52 2 v n xs) (hK : 0 ≤ K) (hn : K + (n : Int) * 2 ≤ 1000000000000) :
    Calls Try.prog 52 #[v, .int .i64 K] w fun e w' => e = .returned (.int .i64 (K + (n : Int) * 2)) ∧ Only lo hi w w' := by
  rcases ho.2 with ⟨rfl, A, c, rfl⟩ | ⟨g, cap, cur, rfl, hlo, hhi, hg, hnc, hcap, hsz, hx⟩
  · go_enter Try.func52, Try.ntmps52
    go_wp2
    go_loopw [1, 5] (fun t i wr => t = .int .i64 K ∧ i = .int .i64 0 ∧ w = wr) (fun _ i _ => 0 - (intOf i).toNat)
    case atStart => exact ⟨rfl, rfl, rfl⟩
    case round =>
      rename_i wr
      obtain ⟨rfl, rfl, rfl⟩ := hrel
      go_wp2
      go_ret
      exact ⟨ret_int (by simp), Only.refl _ _ _⟩
  · have hrow0 : w.rowIs g 52 (cap * 2) (fun i => cur.getD i undef) := ⟨cur, hg, hsz, fun i hi => row_getD (by omega)⟩
    have HR0 := Lib.hid hrow0
    have Hnc := Lib.hid hnc
    clear hx hg hrow0 ho hsz hnc
    go_enter Try.func52, Try.ntmps52
    go_wp2
    go_loopw [1, 5] (fun t i wr => ∃ (k : Nat) (f : Nat → Value), k ≤ n ∧ i = .int .i64 k ∧ t = .int .i64 (K + (k : Int) * 2) ∧ wr.rowIs g 52 (cap * 2) f ∧ Only lo hi w wr) (fun _ i _ => n - (intOf i).toNat)
    case atStart => exact ⟨0, _, Nat.zero_le _, rfl, by simp, HR0.out, Only.refl _ _ _⟩
    case round =>
      rename_i wr
      obtain ⟨k, f, hk, rfl, rfl, hrow, hO⟩ := hrel
      by_cases hlt : k < n
      · have hcc := Hnc.out
        have d0 := hrow.cell (i := k * 2) (by omega)
        have d1 := hrow.cell (i := k * 2 + 1) (by omega)
        have g0 := fun i => hrow.frozen i
        have HR := Lib.hid hrow
        have HO := Lib.hid hO
        clear hrow hO hcc
        go_wp2
        exact ⟨⟨k + 1, _, by omega, by go_num, by first | go_num | (congr 1; push_cast; omega), (HR.out.set _ _).set _ _, (HO.out.setCell hlo hhi _).setCell hlo hhi _⟩, by simp [intOf]; omega⟩
      · have HR := Lib.hid hrow
        have HO := Lib.hid hO
        clear hrow hO
        obtain rfl : k = n := by omega
        go_wp2
        go_ret
        exact ⟨rfl, HO.out⟩

set_option maxHeartbeats 8000000 in
set_option maxRecDepth 100000 in
theorem markIs_any (v : Value) (l : List Inf) (K : Int) (w : World) (lo hi : Nat) (ho : OwN oInf 102 6 w lo hi v l) (hh : hi ≤ w.heap.size) (hK : 0 ≤ K) (hn : K + (l.length : Int) * 5 + (sumL infL l : Int) ≤ 1000000000000) :
    Calls Try.prog 53 #[v, .int .i64 K] w fun e w' => e = .returned (.int .i64 (K + (l.length : Int) * 5 + (sumL infL l : Int))) ∧ Only lo hi w w' := by
  obtain ⟨o0, o1, a, b, f, g0, g1, g2, g3, g4, g5⟩ := ho
  have H2 := Lib.hid g2
  have H3 := Lib.hid g3
  have HG := Lib.hid g5
  clear g2 g3 g5
  rcases g4.2 with ⟨hl0, A, c, rfl⟩ | ⟨g, cap, cur, rfl, hlo, hhi, hg, hnc, hcap, hsz, hx⟩
  · have hnil : l = [] := List.eq_nil_of_length_eq_zero hl0
    subst hnil
    clear g4
    go_enter Try.func53, Try.ntmps53
    go_wp2
    go_loopw [1, 5] (fun t i wr => t = .int .i64 K ∧ i = .int .i64 0 ∧ w = wr) (fun _ i _ => 0 - (intOf i).toNat)
    case atStart => exact ⟨rfl, rfl, rfl⟩
    case round =>
      rename_i wr
      obtain ⟨rfl, rfl, rfl⟩ := hrel
      go_wp2
      go_ret
      exact ⟨ret_int (by simp [sumL]), Only.refl _ _ _⟩
  · generalize hl : l.length = n at *
    have HL := Lib.hid hl
    have hnb : (n : Int) ≤ 200000000000 := by omega
    generalize hT : K + (n : Int) * 5 + (sumL infL l : Int) = T at *
    have HT := Lib.hid (show K + ((0 : Nat) : Int) * 5 + (n : Int) * 5 + (sumL infL (l.drop 0) : Int) = T by rw [← hT]; simp)
    have HR0 := Lib.hid (show w.rowIs g 102 (cap * 6) (fun i => cur.getD i undef) from ⟨cur, hg, hsz, fun i hi => row_getD (by omega)⟩)
    have HF := Lib.hid (show ∀ j, j < n → (fun i => cur.getD i undef) (j * 6 + 5) = f (j * 6 + 5) by
      intro j hj
      have h := congrArg (fun t : List Value => t[j * 6 + 5]?) hx
      have hlt : j * 6 + 5 < n * 6 := by omega
      simp only [List.getElem?_take, if_pos hlt, List.getElem?_map, List.getElem?_range hlt, Option.map_some, Array.getElem?_toList] at h
      show cur.getD (j * 6 + 5) undef = _
      rw [Array.getD_eq_getD_getElem?, h]
      rfl)
    have Hnc := Lib.hid hnc
    clear hx hg g4 hsz hnc hl hT
    go_enter Try.func53, Try.ntmps53
    go_wp2
    go_loopw [1, 5] (fun t i wr => ∃ (k : Nat) (z : Int) (f2 : Nat → Value), k ≤ n ∧ i = .int .i64 k ∧ t = .int .i64 z ∧ 0 ≤ z ∧ Hid (z + ((n : Int) - (k : Int)) * 5 + (sumL infL (l.drop k) : Int) = T) ∧ wr.rowIs g 102 (cap * 6) f2 ∧ Hid (∀ j, j < n → f2 (j * 6 + 5) = f (j * 6 + 5)) ∧
      Hid (∀ j x, k ≤ j → l[j]? = some x → oInf wr (a j) (b j) ((List.range 6).map fun q => f (j * 6 + q)) x) ∧ Only lo hi w wr) (fun _ i _ => n - (intOf i).toNat)
    case atStart => exact ⟨0, K, _, Nat.zero_le _, rfl, rfl, hK, by unfold Hid; rw [← HT.out]; simp, HR0.out, HF.out, fun j x _ hx => HG.out j x hx, Only.refl _ _ _⟩
    case round =>
      rename_i wr
      obtain ⟨k, z, f2, hk, rfl, rfl, z0, hz, hrow, hf2, hin, hon⟩ := hrel
      by_cases hlt : k < n
      · have hx : l[k]? = some (l[k]'(by rw [HL.out]; exact hlt)) := List.getElem?_eq_getElem _
        obtain ⟨x, hxe⟩ : ∃ x, x = l[k]'(by rw [HL.out]; exact hlt) := ⟨_, rfl⟩
        rw [← hxe] at hx
        obtain ⟨s, hs, hos⟩ := hin.out k x (Nat.le_refl _) hx
        simp [show List.range 6 = [0, 1, 2, 3, 4, 5] from rfl] at hs
        have hcc := Hnc.out
        have d0 := hrow.cell (i := k * 6) (by omega)
        have d1 := hrow.cell (i := k * 6 + 1) (by omega)
        have d2 := hrow.cell (i := k * 6 + 2) (by omega)
        have d3 := hrow.cell (i := k * 6 + 3) (by omega)
        have d4 := hrow.cell (i := k * 6 + 4) (by omega)
        have d5 := hrow.cell (i := k * 6 + 5) (by omega)
        rw [hf2.out k hlt, hs.2.2.2.2.2] at d5
        have fz := fun i => hrow.frozen i
        obtain ⟨A2, c2, rfl, -⟩ := hos.cells
        have hsm : sumL infL (l.drop k) = x.ps.length + sumL infL (l.drop (k + 1)) := sumL_drop (f := infL) hx
        have hzb : z + 1 + 1 + 1 + 1 + 1 + ((x.ps.length : Nat) : Int) + ((n : Int) - ((k + 1 : Nat) : Int)) * 5 + (sumL infL (l.drop (k + 1)) : Int) = T := by rw [← hz.out, hsm]; push_cast; omega
        have HZ := Lib.hid hzb
        obtain ⟨w1, w2, w3⟩ := H2.out k hlt
        have hzz : z + 1 + 1 + 1 + 1 + 1 + ((x.ps.length : Nat) : Int) ≤ 1000000000000 := by omega
        have hset : ∀ u0 u1 u2 u3 u4, Only o0 o1 wr (((((wr.setCell ⟨g, k * 6, none⟩ u0).setCell ⟨g, k * 6 + 1, none⟩ u1).setCell ⟨g, k * 6 + 2, none⟩ u2).setCell ⟨g, k * 6 + 3, none⟩ u3).setCell ⟨g, k * 6 + 4, none⟩ u4) :=
          fun _ _ _ _ _ => (((((Only.refl _ _ _).setCell hlo hhi _).setCell hlo hhi _).setCell hlo hhi _).setCell hlo hhi _).setCell hlo hhi _
        have HSET := Lib.hid hset
        have HROW := Lib.hid hrow
        have HON := Lib.hid hon
        have HOS := Lib.hid hos
        have hwz := hon.size
        clear hx hxe hs hos hz hon hsm hzb hset hrow hcc
        go_wp2_with fail
        refine (markI_any _ _ _ _ _ _ _ (HOS.out.only (HSET.out _ _ _ _ _) w3 (by omega)) (by omega) hzz).mono ?_
        rintro e wn ⟨rfl, hmo, hmw⟩
        have hsz := HON.out.size
        have hws := (HSET.out (.int .i64 z) (.int .i64 (z + 1)) (.int .i64 (z + 1 + 1)) (.int .i64 (z + 1 + 1 + 1)) (.int .i64 (z + 1 + 1 + 1 + 1)))
        have hbk : ∀ j x, k + 1 ≤ j → l[j]? = some x → oInf wn (a j) (b j) ((List.range 6).map fun q => f (j * 6 + q)) x := by
          intro j y hj hy
          have hjn : j < n := by rw [← HL.out]; exact (List.getElem?_eq_some_iff.1 hy).1
          obtain ⟨s', h1, h2⟩ := hin.out j y (by omega) hy
          have h3 := H2.out j hjn
          have h4 := h2.only hws h3.2.2 (by omega)
          have h5 := hws.size
          refine ⟨s', h1, h4.only hmw ?_ (by omega)⟩
          rcases H3.out k j hlt hjn (by omega) with h | h
          · exact .inr h
          · exact .inl h
        have HBK := Lib.hid hbk
        have hgl : g < wr.heap.size := by omega
        have hrow2 : wn.rowIs g 102 (cap * 6) (put5 (k * 6) (.int .i64 z) (.int .i64 (z + 1)) (.int .i64 (z + 1 + 1)) (.int .i64 (z + 1 + 1 + 1)) (.int .i64 (z + 1 + 1 + 1 + 1)) f2) := rowIs_only (rowIs_set5 HROW.out (k * 6) _ _ _ _ _) hmw (by omega) (by have := hws.size; omega)
        have HROW2 := Lib.hid hrow2
        have HF2 := Lib.hid (put5_keep (k := k) hf2.out (.int .i64 z) (.int .i64 (z + 1)) (.int .i64 (z + 1 + 1)) (.int .i64 (z + 1 + 1 + 1)) (.int .i64 (z + 1 + 1 + 1 + 1)))
        clear hrow2
        have HMW := Lib.hid ((HON.out.trans (hws.wide g0 g1)).trans (hmw.wide w1 w2))
        clear hbk hmo hmw hws
        go_wp2
        refine ⟨⟨k + 1, z + 1 + 1 + 1 + 1 + 1 + ((x.ps.length : Nat) : Int), put5 (k * 6) (.int .i64 z) (.int .i64 (z + 1)) (.int .i64 (z + 1 + 1)) (.int .i64 (z + 1 + 1 + 1)) (.int .i64 (z + 1 + 1 + 1 + 1)) f2, ?_, by go_num, rfl, ?_, HZ.out, HROW2.out, HF2.out, HBK.out, HMW.out⟩, ?_⟩
        · omega
        · omega
        · simp [intOf]; omega
      · have HON := Lib.hid hon
        have HZ := Lib.hid (show z = T by
          rw [← hz.out, List.drop_of_length_le (by have := HL.out; omega), show (n : Int) - (k : Int) = 0 by omega]
          simp [sumL])
        clear hon hz hrow
        go_wp2
        go_ret
        exact ⟨ret_int HZ.out, HON.out⟩

/-- How many marks a machine takes. -/
def mkM (m : Mc) : Int := (sumL List.length m.fr : Int) + (sumL List.length m.bk : Int) + (m.cs.length : Int) * 2 + ((m.ls.length : Int) * 5 + (sumL infL m.ls : Int)) + (m.dr.length : Int)
theorem szGo_sum {α : Type} (f : α → Nat) : ∀ (l : List α) (z : Int), 0 ≤ szGo f z l → szGo f z l + (sumL f l : Int) = z
  | [], z, h => by simp [szGo, sumL]
  | x :: xs, z, h => by
    rw [szGo] at h ⊢
    split at h
    · rename_i hx
      rw [if_pos hx]
      have h1 := szGo_sum f xs _ h
      have h2 : sumL f (x :: xs) = f x + sumL f xs := by simp [sumL]
      rw [h2]
      push_cast
      omega
    · omega
theorem mkM_le {m : Mc} {z : Int} (h : szM 1048576 m = z) (hz : 0 ≤ z) : 0 ≤ mkM m ∧ mkM m ≤ 5242880 := by
  unfold szM at h
  simp only at h
  by_cases h1 : szLLd 1048576 m.fr < 0
  · rw [if_pos h1] at h; omega
  rw [if_neg h1] at h
  by_cases h2 : szLLd (szLLd 1048576 m.fr) m.bk < 0
  · rw [if_pos h2] at h; omega
  rw [if_neg h2] at h
  generalize hz1 : szLLd 1048576 m.fr = z1 at *
  generalize hz2 : szLLd z1 m.bk = z2 at *
  by_cases h3 : szOfM z2 m.cs.length < 0
  · rw [if_pos h3] at h; omega
  rw [if_neg h3] at h
  generalize hz3 : szOfM z2 m.cs.length = z3 at *
  by_cases h4 : szIsd z3 m.ls < 0
  · rw [if_pos h4] at h; omega
  rw [if_neg h4] at h
  generalize hz4 : szIsd z3 m.ls = z4 at *
  have e1 : z1 + (m.fr.length : Int) + (sumL List.length m.fr : Int) = 1048576 := by
    unfold szLLd at hz1
    split at hz1
    · have := szGo_sum List.length m.fr _ (by rw [hz1]; omega)
      rw [hz1] at this
      omega
    · omega
  have e2 : z2 + (m.bk.length : Int) + (sumL List.length m.bk : Int) = z1 := by
    unfold szLLd at hz2
    split at hz2
    · have := szGo_sum List.length m.bk _ (by rw [hz2]; omega)
      rw [hz2] at this
      omega
    · omega
  have e3 : z3 + (m.cs.length : Int) = z2 := by
    unfold szOfM at hz3
    split at hz3 <;> omega
  have e4 : z4 + (m.ls.length : Int) + (sumL infL m.ls : Int) = z3 := by
    unfold szIsd at hz4
    split at hz4
    · have := szGo_sum infL m.ls _ (by rw [hz4]; omega)
      rw [hz4] at this
      omega
    · omega
  have e5 : z + (m.dr.length : Int) = z4 := by
    unfold szOfM at h
    split at h <;> omega
  unfold mkM
  omega

set_option maxHeartbeats 4000000 in
set_option maxRecDepth 100000 in
theorem markMachine_any (v : Value) (m : Mc) (w : World) (lo hi : Nat) (ho : OwM w lo hi v m) (hh : hi ≤ w.heap.size) (h0 : 0 ≤ mkM m) (hn : mkM m ≤ 5242880) :
    Calls Try.prog 13 #[v, .int .i64 1] w fun e w' => e = .returned (.int .i64 (1 + mkM m)) ∧ Only lo hi w w' := by
  obtain ⟨f, b, cs, ls, d, rfl, a0, a1, a2, a3, a4, a5, p0, p1, p2, p3, p4, p5, p6, of, ob, oc, ol, od⟩ := ho
  obtain ⟨AF, cF, rfl⟩ := OwN.shape of
  obtain ⟨AG, cG, rfl⟩ := OwN.shape ob
  obtain ⟨AC, cC, rfl, -⟩ := oc.cells
  obtain ⟨AI, cI, rfl⟩ := OwN.shape ol
  obtain ⟨AD, cD, rfl, -⟩ := od.cells
  have e1 : (sumL List.length m.fr : Int) + (sumL List.length m.bk : Int) + (m.cs.length : Int) * 2 + ((m.ls.length : Int) * 5 + (sumL infL m.ls : Int)) + (m.dr.length : Int) ≤ 5242880 := hn
  have HV := Lib.hid (show mkM m = (sumL List.length m.fr : Int) + (sumL List.length m.bk : Int) + (m.cs.length : Int) * 2 + ((m.ls.length : Int) * 5 + (sumL infL m.ls : Int)) + (m.dr.length : Int) from rfl)
  clear hn h0
  have hcl : CellsAt (w.alloc (.cells #[.int .i64 m.wd, .int .i64 m.rk, .slice AF m.fr.length cF, .slice AG m.bk.length cG, .slice AC m.cs.length cC, .slice AI m.ls.length cI, .slice AD m.dr.length cD] 32)) w.heap.size 0 [.int .i64 m.wd, .int .i64 m.rk, .slice AF m.fr.length cF, .slice AG m.bk.length cG, .slice AC m.cs.length cC, .slice AI m.ls.length cI, .slice AD m.dr.length cD] := CellsAt.of_alloc
  have hbw : Below w.heap.size w (w.alloc (.cells #[.int .i64 m.wd, .int .i64 m.rk, .slice AF m.fr.length cF, .slice AG m.bk.length cG, .slice AC m.cs.length cC, .slice AI m.ls.length cI, .slice AD m.dr.length cD] 32)) := (Below.refl _ _).alloc (Nat.le_refl _) _
  have hsw : (w.alloc (.cells #[.int .i64 m.wd, .int .i64 m.rk, .slice AF m.fr.length cF, .slice AG m.bk.length cG, .slice AC m.cs.length cC, .slice AI m.ls.length cI, .slice AD m.dr.length cD] 32)).heap.size = w.heap.size + 1 := by simp
  have OF := Lib.hid (OwLL.below of (hbw.mono (by omega)))
  have OB := Lib.hid (OwLL.below ob (hbw.mono (by omega)))
  have OC := Lib.hid (oc.below (hbw.mono (by omega)))
  have OL := Lib.hid (OwIs.below ol (hbw.mono (by omega)))
  have OD := Lib.hid (od.below (hbw.mono (by omega)))
  have HCL := Lib.hid hcl
  have HSW := Lib.hid hsw
  have BW : Hid (Only lo hi w (w.alloc (.cells #[.int .i64 m.wd, .int .i64 m.rk, .slice AF m.fr.length cF, .slice AG m.bk.length cG, .slice AC m.cs.length cC, .slice AI m.ls.length cI, .slice AD m.dr.length cD] 32))) := (Only.refl _ _ _).alloc _
  clear of ob oc ol od hcl hbw hsw
  go_enter Try.func13, Try.ntmps13
  go_wp2_with fail
  refine (markLL_any _ m.fr _ _ _ _ OF.out (by have := HSW.out; omega) (by omega) (by omega)).mono ?_
  rintro e w1 ⟨rfl, b1⟩
  have z1 : w.heap.size + 1 ≤ w1.heap.size := by have := b1.size; have := HSW.out; omega
  have OB1 := Lib.hid (OwLL.only OB.out b1 (by omega) (by have := HSW.out; omega))
  have OC1 := Lib.hid (OC.out.only b1 (by omega) (by have := HSW.out; omega))
  have OL1 := Lib.hid (OwIs.only OL.out b1 (by omega) (by have := HSW.out; omega))
  have OD1 := Lib.hid (OD.out.only b1 (by omega) (by have := HSW.out; omega))
  have HC1 := Lib.hid (HCL.out.only b1 (by omega) (by have := HSW.out; omega))
  have B1 := Lib.hid (BW.out.trans (b1.wide p0 (show a1 ≤ hi by omega)))
  clear b1 OF OB OC OL OD
  obtain ⟨c0, c1, c2, c3, c4, c5, c6⟩ := HC1.out.seven
  go_wp2_with fail
  clear c0 c1 c2 c3 c4 c5 c6
  refine (markLL_any _ m.bk _ _ _ _ OB1.out (by omega) (by omega) (by omega)).mono ?_
  rintro e w2 ⟨rfl, b2⟩
  have z2 : w.heap.size + 1 ≤ w2.heap.size := by have := b2.size; omega
  have OC2 := Lib.hid (OC1.out.only b2 (by omega) (by omega))
  have OL2 := Lib.hid (OwIs.only OL1.out b2 (by omega) (by omega))
  have OD2 := Lib.hid (OD1.out.only b2 (by omega) (by omega))
  have HC2 := Lib.hid (HC1.out.only b2 (by omega) (by omega))
  have B2 := Lib.hid (B1.out.trans (b2.wide (show lo ≤ a1 by omega) (show a2 ≤ hi by omega)))
  clear b2 OB1 OC1 OL1 OD1
  obtain ⟨c0, c1, c2, c3, c4, c5, c6⟩ := HC2.out.seven
  go_wp2_with fail
  clear c0 c1 c2 c3 c4 c5 c6
  refine (markCs_any _ _ _ _ _ _ _ OC2.out (by omega) (by omega)).mono ?_
  rintro e w3 ⟨rfl, b3⟩
  have z3 : w.heap.size + 1 ≤ w3.heap.size := by have := b3.size; omega
  have OL3 := Lib.hid (OwIs.only OL2.out b3 (by omega) (by omega))
  have OD3 := Lib.hid (OD2.out.only b3 (by omega) (by omega))
  have HC3 := Lib.hid (HC2.out.only b3 (by omega) (by omega))
  have B3 := Lib.hid (B2.out.trans (b3.wide (show lo ≤ a2 by omega) (show a3 ≤ hi by omega)))
  clear b3 OC2 OL2 OD2
  obtain ⟨c0, c1, c2, c3, c4, c5, c6⟩ := HC3.out.seven
  go_wp2_with fail
  clear c0 c1 c2 c3 c4 c5 c6
  refine (markIs_any _ m.ls _ _ _ _ OL3.out (by omega) (by omega) (by omega)).mono ?_
  rintro e w4 ⟨rfl, b4⟩
  have z4 : w.heap.size + 1 ≤ w4.heap.size := by have := b4.size; omega
  have OD4 := Lib.hid (OD3.out.only b4 (by omega) (by omega))
  have HC4 := Lib.hid (HC3.out.only b4 (by omega) (by omega))
  have B4 := Lib.hid (B3.out.trans (b4.wide (show lo ≤ a3 by omega) (show a4 ≤ hi by omega)))
  clear b4 OL3 OD3
  obtain ⟨c0, c1, c2, c3, c4, c5, c6⟩ := HC4.out.seven
  go_wp2_with fail
  clear c0 c1 c2 c3 c4 c5 c6
  refine (markI_any _ _ _ _ _ _ _ OD4.out (by omega) (by omega)).mono ?_
  rintro e w5 ⟨rfl, ho5, b5⟩
  have B5 := Lib.hid (B4.out.trans (b5.wide (show lo ≤ a4 by omega) (show a5 ≤ hi by omega)))
  clear b5 ho5 OD4
  go_wp2
  go_ret
  exact ⟨ret_int (by have := HV.out; omega), B5.out⟩

end Go.Proofs.Ytmcalioldphfeaa
