/-
  Texts joined: DrD, So1, So2.
-/
import Derived.Test.YtolcgopfbbmjgaaPk5
import Derived.Test.YtolcgopfbbmjgaaPk4
import Derived.Test.YtolcgopfbbmjgaaPk2
import Derived.Test.YtolcgopfbbmjgaaPk1
import Derived.Test.YtolcgopfbbmjgaaOpL
import Derived.Test.YtolcgopfbbmjgaaOwn
import Derived.Test.YtolcgopfbbmjgaaPs
/-
  A drawn machine: l07Draw.
-/
namespace Go.Proofs.Ytolcgopfbbmjgaa
set_option linter.unusedVariables false
set_option linter.unusedSimpArgs false
open Go.RowKit

theorem ok_new {n : Int} (h : 2 ≤ n) (h' : n ≤ 6) : okM (newMc n) = true := by
  obtain rfl | rfl | rfl | rfl | rfl : n = 2 ∨ n = 3 ∨ n = 4 ∨ n = 5 ∨ n = 6 := by omega
  all_goals kernel_rfl
theorem setL_wd (m : Mc) (n : Int × Int) (l : List Int) : (setL m n l).wd = m.wd := by unfold setL; split <;> rfl
theorem doTo_wd (m : Mc) (o : Opr) : (doTo m o).wd = m.wd := by
  unfold doTo fmTo mvTo carTo
  (repeat' split) <;> simp [setL_wd, setC, addLp]
/-- A machine and operations that were drawn. -/
def DrawnM (w : World) (gs : Nat) (K : Int) (e : Ending) (w' : World) : Prop :=
  ∃ (m : Mc) (S : Nat → Spot) (g : Nat) (v : Value) (l : List Opr), e = .returned (.tuple #[.agg (mcV m.wd m.rk (S 1).v (S 2).v (S 3).v (S 4).v (S 5).v), v]) ∧ okM m = true ∧ 2 ≤ m.wd ∧ MSt w' w.heap.size g m S ∧
    w'.ownsRow w.heap.size 55 8 v l.length (vS Opr.cells l) ∧ (∀ q, v.ownBlock = some q → ¬ blk S q) ∧ (∀ x ∈ l, okOpW m.wd x = true) ∧ Src w' gs K ∧ Only gs (gs + 1) w w'
/-- .. and how many operations at most; they run to the machine. -/
def DrawnML (w : World) (gs : Nat) (K most : Int) (e : Ending) (w' : World) : Prop :=
  ∃ (m : Mc) (S : Nat → Spot) (g : Nat) (v : Value) (l : List Opr), e = .returned (.tuple #[.agg (mcV m.wd m.rk (S 1).v (S 2).v (S 3).v (S 4).v (S 5).v), v]) ∧ okM m = true ∧ 2 ≤ m.wd ∧ MSt w' w.heap.size g m S ∧
    w'.ownsRow w.heap.size 55 8 v l.length (vS Opr.cells l) ∧ (∀ q, v.ownBlock = some q → ¬ blk S q) ∧ (∀ x ∈ l, okOpW m.wd x = true) ∧ (l.length : Int) ≤ most ∧ runM (newMc m.wd) l = some m ∧ Src w' gs K ∧ Only gs (gs + 1) w w'
theorem run_snoc {m0 m : Mc} {l : List Opr} {x : Opr} (h : runM m0 l = some m) (hc : doCode m x = 0) : runM m0 (l ++ [x]) = some (doTo m x) := by
  rw [runM_app, h]
  simp [runM, hc]

/-- The running state of a draw. -/
structure LSt (w : World) (gs b6 : Nat) (K : Int) (m : Mc) (S : Nat → Spot) (v : Value) (l : List Opr) (wr : World) : Prop where
  ok : okM m = true ∧ 2 ≤ m.wd
  mst : MSt wr w.heap.size b6 m S
  own : wr.ownsRow w.heap.size 55 8 v l.length (vS Opr.cells l)
  apart : ∀ q, v.ownBlock = some q → ¬ blk S q
  ops : ∀ x ∈ l, okOpW m.wd x = true
  src : Src wr gs K
  only : Only gs (gs + 1) w wr
  res : Bx wr w.heap.size zeroM
  rne : ¬ blk S w.heap.size ∧ v.ownBlock ≠ some w.heap.size
theorem own_keep {w w' : World} {B e sz n : Nat} {v : Value} {xs : List Value} (h : w.ownsRow B e sz v n xs) (hk : ∀ g, v.ownBlock = some g → w'.heap[g]? = w.heap[g]?) : w'.ownsRow B e sz v n xs := by
  refine ⟨h.1, ?_⟩
  rcases h.2 with h2 | ⟨g, cap, cur, hv, hb, hh, h3⟩
  · exact .inl h2
  · exact .inr ⟨g, cap, cur, hv, hb, (hk g (by rw [hv]; rfl)).trans hh, h3⟩
theorem LSt.below {w : World} {gs b6 : Nat} {K : Int} {m : Mc} {S : Nat → Spot} {v : Value} {l : List Opr} {wr wy : World} (h : LSt w gs b6 K m S v l wr) (hb : Below wr.heap.size wr wy) : LSt w gs b6 K m S v l wy :=
  ⟨h.ok, h.mst.below hb, own_below h.own hb, h.apart, h.ops, h.src.below hb h.src.lt, h.only.trans (Only.of_below hb), h.res.below hb h.res.2.2, h.rne⟩
theorem LSt.turn {w : World} {gs b6 : Nat} {K K' : Int} {m : Mc} {S : Nat → Spot} {v : Value} {l : List Opr} {wr wy : World} (h : LSt w gs b6 K m S v l wr) (hg : gs < w.heap.size) (hs : Src wy gs K') (ho : Only gs (gs + 1) wr wy) : LSt w gs b6 K' m S v l wy :=
  ⟨h.ok, h.mst.only ho hg, own_keep h.own (fun q hq => ho.block q (World.ownsRow.lt h.own q hq).2 (by have := (World.ownsRow.lt h.own q hq).1; omega)), h.apart, h.ops, hs, h.only.trans ho, h.res.only ho (by omega), h.rne⟩
theorem LSt.next {w : World} {gs b6 g B' : Nat} {K : Int} {m m' : Mc} {S S7 : Nat → Spot} {v : Value} {l : List Opr} {wr : World} (h : LSt w gs b6 K m S v l wr) (hM : MSt wr B' g m' S7) (ok' : okM m' = true ∧ 2 ≤ m'.wd) (hwd : m'.wd = m.wd) (hb : b6 < B') (hv : ∀ q, v.ownBlock = some q → q < B') (hw : w.heap.size < B') (hg : gs < w.heap.size) :
    ∃ S', LSt w gs b6 K m' S' v l (((((((wr.setCell ⟨b6, 0, none⟩ (.int .i64 m'.wd)).setCell ⟨b6, 1, none⟩ (.int .i64 m'.rk)).setCell ⟨b6, 2, none⟩ (S7 1).v).setCell ⟨b6, 3, none⟩ (S7 2).v).setCell ⟨b6, 4, none⟩ (S7 3).v).setCell ⟨b6, 5, none⟩ (S7 4).v).setCell ⟨b6, 6, none⟩ (S7 5).v) := by
  have hbx := h.mst.sp.own 0
  rw [h.mst.box] at hbx
  have hbx : wr.ownsRow w.heap.size 41 7 (.slice (some ⟨b6, 0, none⟩) 1 1) 1 [.int .i64 m.wd, .int .i64 m.rk, (S 1).v, (S 2).v, (S 3).v, (S 4).v, (S 5).v] := hbx
  obtain ⟨S', h1, h2, h3⟩ := hM.over hbx (Nat.le_of_lt hw) hb
  have hb0 : w.heap.size ≤ b6 := h.mst.size.2
  have hbn : b6 ≠ w.heap.size := fun e => h.rne.1 ⟨0, by rw [h.mst.gbox, e]⟩
  have hblk : ∀ q, blk S' q → q = b6 ∨ B' ≤ q := fun q ⟨j, hj⟩ => by
    by_cases e : j = 0
    · subst e
      rw [h3] at hj
      injection hj with hj
      exact .inl hj.symm
    · rw [h2 j e] at hj
      exact .inr (hM.sp.lt hj).1
  have hvb : v.ownBlock ≠ some b6 := fun e => h.apart _ e ⟨0, h.mst.gbox⟩
  refine ⟨S', ok', h1, own_far7 h.own hvb _ _ _ _ _ _ _, fun q hq hs => ?_, fun x hx => by rw [hwd]; exact h.ops x hx, ?_, ?_, ?_, fun hs => ?_, h.rne.2⟩
  · rcases hblk q hs with e | e
    · exact hvb (by rw [← e]; exact hq)
    · have := hv q hq; omega
  · have hp : gs < b6 := by omega
    exact ((((((h.src.setNew hp _ _).setNew hp _ _).setNew hp _ _).setNew hp _ _).setNew hp _ _).setNew hp _ _).setNew hp _ _
  · exact ((((((h.only.setNew hb0 _ _).setNew hb0 _ _).setNew hb0 _ _).setNew hb0 _ _).setNew hb0 _ _).setNew hb0 _ _).setNew hb0 _ _
  · have hr := fun e => hbn (Eq.symm e)
    exact ((((((h.res.far hr _ _).far hr _ _).far hr _ _).far hr _ _).far hr _ _).far hr _ _).far hr _ _
  · rcases hblk _ hs with e | e
    · exact hbn e.symm
    · omega
theorem LSt.append {w wr wx : World} {gs b6 : Nat} {K : Int} {m : Mc} {S : Nat → Spot} {v v' : Value} {l : List Opr} {x : Opr} {o : Obj} (h : LSt w gs b6 K m S v l wr) (hg : gs < w.heap.size) (hx : okOpW m.wd x = true)
    (hown : wx.ownsRow w.heap.size 55 8 v' (l.length + 1) (vS Opr.cells l ++ x.cells)) (hgr : (wr.alloc o).grownBy wx v.ownBlock) (hat : v'.ownBlock = v.ownBlock ∨ v'.ownBlock = some (wr.heap.size + 1)) : LSt w gs b6 K m S v' (l ++ [x]) wx := by
  rw [← World.size_alloc wr o] at hat
  have hA := h.below ((Below.refl _ _).alloc (Nat.le_refl _) o)
  have hs0 : w.heap.size ≤ (wr.alloc o).heap.size := hA.only.size
  have hb : Below w.heap.size (wr.alloc o) wx := Below.grown (Below.refl _ _) hgr hs0 (fun k hk => (World.ownsRow.lt h.own k hk).1)
  refine ⟨h.ok, hA.mst.keep (fun j q hq => hgr.block q (hA.mst.sp.lt hq).2 (fun e => h.apart q e.symm ⟨j, hq⟩)), ?_, fun q hq => ?_, fun y hy => ?_, hA.src.below hb hg, ?_, ?_, h.rne.1, ?_⟩
  · rw [List.length_append, vS_snoc]; exact hown
  · rcases hat with e | e
    · exact h.apart q (e ▸ hq)
    · rw [e] at hq
      injection hq with hq
      rintro ⟨j, hj⟩
      have := (hA.mst.sp.lt hj).2
      omega
  · rcases List.mem_append.1 hy with hy | hy
    · exact h.ops y hy
    · rw [List.mem_singleton] at hy
      rw [hy]; exact hx
  · exact ⟨hb.os.trans hA.only.os, hb.tape.trans hA.only.tape, hb.output.trans hA.only.output, Nat.le_trans hA.only.size hb.size, fun k hk hk2 => (hb.block k hk).trans (hA.only.block k hk hk2)⟩
  · exact hA.res.keep (hgr.block _ hA.res.2.2 (fun e => h.rne.2 e.symm)) hgr.size
  · rcases hat with e | e
    · rw [e]; exact h.rne.2
    · rw [e]
      intro e2
      injection e2 with e2
      have := hA.res.2.2
      omega
set_option maxHeartbeats 40000000 in
set_option maxRecDepth 100000 in
theorem l07DrawL_any {w : World} {gs : Nat} {K most : Int} (hS : Src w gs K) (hm0 : 0 ≤ most) (hm1 : most ≤ 100) (hK : K + 4 + 20 * most ≤ 1000000000) :
    Calls Try.prog 45 #[.pointer (some ⟨gs, 0, none⟩), .int .i64 most] w (DrawnML w gs (K + 4 + 20 * most) most) := by
  obtain ⟨io, hio, ho0, ho1, ho2⟩ := info_parts info_op
  have hgs := hS.lt
  have HS := Lib.hid hS
  have HR := Lib.hid (Bx.new w zeroM 41)
  clear hS
  go_enter Try.func45, Try.ntmps45
  go_wp2_with fail
  refine (pick_any _ gs 5 K (HS.out.alloc _) (by omega)).mono ?_
  rintro e w1 ⟨x, rfl, hx, hs1, ho1'⟩
  have hx0 : 0 ≤ x := hx.1
  have hx5 : x < 5 := hx.2.1 (by omega)
  have S1 := Lib.hid hs1
  have O1 := Lib.hid (((Only.refl gs (gs + 1) w).alloc (.cells zeroM.toArray 41)).trans ho1')
  have R1 := Lib.hid (HR.out.only ho1' (by omega))
  have hz1 : w.heap.size < w1.heap.size := by have := ho1'.size; rw [World.size_alloc] at this; exact this
  clear hx hs1 ho1'
  go_wp2_with fail
  refine (l07New_any (2 + x) (by omega) (by omega) w1).mono ?_
  rintro e w2 ⟨S0, g0, rfl, hM0, hB0⟩
  have hz2 : w1.heap.size ≤ w2.heap.size := hB0.size
  obtain ⟨S2, hM2, hS2, hb2⟩ := hM0.rebox hz2
  obtain ⟨A1, c1, A2, c2, A3, c3, A4, c4, A5, c5, q1, q2, q3, q4, q5⟩ := hM0.slices
  rw [q1, q2, q3, q4, q5] at hM2
  rw [q1, q2, q3, q4, q5]
  have M2 := Lib.hid hM2
  have B0 := Lib.hid hB0
  have HS2 := Lib.hid hS2
  clear hM2 hB0 hM0 hS2 q1 q2 q3 q4 q5 hb2
  go_wp2_with fail
  have hok : okM (newMc (2 + x)) = true ∧ 2 ≤ (newMc (2 + x)).wd := ⟨ok_new (by omega) (by omega), show 2 ≤ 2 + x by omega⟩
  have HNM := Lib.hid (show newMc (2 + x) = newMc (newMc (2 + x)).wd from rfl)
  generalize newMc (2 + x) = m at *
  generalize hwA : w2.alloc (.cells (mcV m.wd m.rk (.slice A1 m.fr.length c1) (.slice A2 m.bk.length c2) (.slice A3 m.cs.length c3) (.slice A4 m.ls.length c4) (.slice A5 m.dr.length c5)) 41) = wA at *
  have hzA : wA.heap.size = w2.heap.size + 1 := by rw [← hwA, World.size_alloc]
  have hBA : Below w1.heap.size w1 wA := by rw [← hwA]; exact B0.out.alloc hz2 _
  have HL0 : LSt w gs w2.heap.size (K + 2) m S2 (.slice (some ⟨wA.heap.size, 0, none⟩) 0 0) [] (wA.alloc (.cells #[] 55)) := by
    refine ⟨hok, (M2.out.base (by omega)).below ((Below.refl _ _).alloc (Nat.le_refl _) _), ?_, fun q hq => ?_, (fun x hx => by cases hx), (S1.out.below hBA (by omega)).alloc _, (O1.out.trans (Only.of_below hBA)).alloc _, (R1.out.below hBA hz1).alloc _, fun ⟨j, hj⟩ => ?_, fun e => ?_⟩
    · exact World.ownsRow_lit (base := w.heap.size) (e := 55) (size := 8) wA #[] 0 (by omega) (by unfold maxLen; omega) rfl
    · have e : wA.heap.size = q := by injection hq
      rintro ⟨j, hj⟩
      have := (M2.out.sp.lt hj).2
      omega
    · have := (M2.out.sp.lt hj).1
      omega
    · have e : wA.heap.size = w.heap.size := by injection e
      omega
  have hzb : w.heap.size < w2.heap.size := by omega
  rw [hzA] at HL0
  generalize wA.alloc (.cells #[] 55) = W3 at *
  have HL := Lib.hid HL0
  clear HL0 hwA hzA hBA M2 B0 HS2 S1 O1 R1 hok
  refine (pick_any W3 gs (most + 1) (K + 2) HL.out.src (by omega)).mono ?_
  rintro e W4 ⟨k0, rfl, hk, hs4, ho4⟩
  have hk0 : 0 ≤ k0 := hk.1
  have hk1 : k0 ≤ most := by
    rcases (by omega : 1 < most + 1 ∨ most + 1 ≤ 1) with h1 | h1
    · have := hk.2.1 h1; omega
    · have := hk.2.2 h1; omega
  obtain ⟨n0, rfl⟩ := Int.eq_ofNat_of_zero_le hk0
  have HL4 := Lib.hid (HL.out.turn hgs hs4 ho4)
  clear hk hs4 ho4 HL
  go_wp2_with fail
  go_loopw [7, 8] (fun v7 i wr => ∃ (n : Nat) (m : Mc) (Sk : Nat → Spot) (l : List Opr) (wq : World), wq = wr ∧ n ≤ n0 ∧ l.length + n ≤ n0 ∧ i = .int .i64 n ∧ Hid (LSt w gs w2.heap.size (K + 4 + 20 * ((n0 : Int) - n)) m Sk v7 l wq) ∧ Hid (runM (newMc m.wd) l = some m)) (fun v7 i _ => (intOf i).toNat)
  case atStart =>
    have h9 := HL4.out
    rw [show K + 2 + 2 = K + 4 + 20 * ((n0 : Int) - n0) by omega] at h9
    exact ⟨n0, m, S2, [], _, rfl, Nat.le_refl _, Nat.le_of_eq (Nat.zero_add _), rfl, h9, by unfold Hid; rw [← HNM.out]; rfl⟩
  case round =>
    clear HL4
    obtain ⟨n, m, Sk, l, wq, hwq, hn, hln, rfl, HLr, HRN⟩ := hrel
    subst hwq
    by_cases hz : n = 0
    · subst hz
      obtain ⟨x0, x1, x2, x3, x4, x5, x6⟩ := HLr.out.mst.cells.seven
      obtain ⟨y0, y1, y2, y3, y4, y5, y6⟩ := CellsAt.seven HLr.out.res.1
      have yf := HLr.out.res.2.1
      obtain ⟨A1, c1, A2, c2, A3, c3, A4, c4, A5, c5, g1, g2, g3, g4, g5⟩ := HLr.out.mst.slices
      have HG := Lib.hid (And.intro g1 (And.intro g2 (And.intro g3 (And.intro g4 g5))))
      rw [g1] at x2
      rw [g2] at x3
      rw [g3] at x4
      rw [g4] at x5
      rw [g5] at x6
      clear g1 g2 g3 g4 g5
      have hgr : w2.heap.size ≠ w.heap.size := by omega
      go_wp2
      refine bodyPost_ret (v := .tuple #[.agg (mcV m.wd m.rk (.slice A1 m.fr.length c1) (.slice A2 m.bk.length c2) (.slice A3 m.cs.length c3) (.slice A4 m.ls.length c4) (.slice A5 m.dr.length c5)), u7]) (by simp [results, Try.results45, go_sem, y0, y1, y2, y3, y4, y5, y6, World.cell?_setCell_other]) rfl ?_
      obtain ⟨g1, g2, g3, g4, g5⟩ := HG.out
      have h := HLr.out
      refine ⟨m, Sk, w2.heap.size, u7, l, by rw [g1, g2, g3, g4, g5], h.ok.1, h.ok.2, h.mst.keep (fun j q hq => set7_heap _ _ _ _ _ _ _ _ _ _ (fun e => h.rne.1 ⟨j, by rw [hq, e]⟩)), own_far7 h.own h.rne.2 _ _ _ _ _ _ _, h.apart, h.ops, by omega, HRN.out, ?_, ?_⟩
      · exact (((((((h.src.setNew hgs _ _).setNew hgs _ _).setNew hgs _ _).setNew hgs _ _).setNew hgs _ _).setNew hgs _ _).setNew hgs _ _).more (by omega) hK
      · exact ((((((h.only.setNew (Nat.le_refl _) _ _).setNew (Nat.le_refl _) _ _).setNew (Nat.le_refl _) _ _).setNew (Nat.le_refl _) _ _).setNew (Nat.le_refl _) _ _).setNew (Nat.le_refl _) _ _).setNew (Nat.le_refl _) _ _
    · have hpos : 0 < n := by omega
      have hlt0 : (0 : Int) < (n : Int) := by omega
      go_wp2_with fail
      refine (l07DrawOp_any HLr.out.src HLr.out.mst hgs (by omega) HLr.out.ok.1).mono ?_
      rintro e W5 ⟨x, rfl, hxo, hs5, ho5⟩
      have HL5 := Lib.hid (HLr.out.turn hgs hs5 ho5)
      have HXO := Lib.hid hxo
      have hmb5 : w2.heap.size < W5.heap.size := HL5.out.mst.size.1
      have HV5 : Hid (∀ q, u7.ownBlock = some q → q < W5.heap.size) := fun q hq => (World.ownsRow.lt HL5.out.own q hq).2
      clear hs5 ho5 hxo HLr
      go_wp2_with fail
      obtain ⟨W6, hW6⟩ : ∃ W6, W6 = W5.alloc (.cells x.cells.toArray 55) := ⟨_, rfl⟩
      have hb56 : Below W5.heap.size W5 W6 := by rw [hW6]; exact (Below.refl _ _).alloc (Nat.le_refl _) _
      have hox : Bx W6 W5.heap.size x.cells := by rw [hW6]; exact Bx.new W5 x.cells 55
      have hL6 := HL5.out.below hb56
      have hz6 : W5.heap.size < W6.heap.size := hox.2.2
      rw [← hW6]
      refine (l07Own_any m w2.heap.size W6 hL6.mst.rd hL6.ok.1).mono ?_
      rintro e W7 ⟨S7, g7, rfl, hM7, hB7⟩
      have hz7 : W6.heap.size ≤ W7.heap.size := hB7.size
      obtain ⟨S8, hM8, hS8, hb8⟩ := hM7.rebox hz7
      obtain ⟨A1, c1, A2, c2, A3, c3, A4, c4, A5, c5, q1, q2, q3, q4, q5⟩ := hM7.slices
      rw [q1, q2, q3, q4, q5] at hM8
      rw [q1, q2, q3, q4, q5]
      have M8 := Lib.hid hM8
      have HL6 := Lib.hid hL6
      have HO6 := Lib.hid hox
      have HB7 := Lib.hid hB7
      have HOK6 := Lib.hid hL6.ok
      clear hW6 hb56 hox hL6 hM7 hB7 hM8 hS8 hb8 q1 q2 q3 q4 q5 HL5
      go_wp2_with fail
      have hA8 : Below W7.heap.size W7 (W7.alloc (.cells (mcV m.wd m.rk (.slice A1 m.fr.length c1) (.slice A2 m.bk.length c2) (.slice A3 m.cs.length c3) (.slice A4 m.ls.length c4) (.slice A5 m.dr.length c5)) 41)) := (Below.refl _ _).alloc (Nat.le_refl _) _
      have hB8 : Below W6.heap.size W6 _ := HB7.out.trans (hA8.mono hz7)
      have hO8 := HO6.out.below hB8 hz6
      generalize W7.alloc (.cells (mcV m.wd m.rk (.slice A1 m.fr.length c1) (.slice A2 m.bk.length c2) (.slice A3 m.cs.length c3) (.slice A4 m.ls.length c4) (.slice A5 m.dr.length c5)) 41) = W8 at *
      have hz8 : W7.heap.size ≤ W8.heap.size := hA8.size
      refine (l07Do_any M8.out (by omega) x W5.heap.size 0 hO8.1 (fun ⟨j, hj⟩ => by have := (M8.out.sp.lt hj).1; omega) HOK6.out.1 HXO.out).mono ?_
      rintro e W9 ⟨rfl, S9, hmv, hM9⟩
      have hB9 : Below W6.heap.size W6 W9 := hB8.trans (hmv.below M8.out.sp (by omega))
      have HL9 := Lib.hid (HL6.out.below hB9)
      have HO9 := Lib.hid (HO6.out.below hB9 hz6)
      have HM9 := Lib.hid hM9
      have hz9 : W6.heap.size ≤ W9.heap.size := hB9.size
      clear hB8 hA8 hO8 hmv hM9 hB9 HB7 HL6 HO6 M8
      by_cases hcode : doCode m x = 0
      · have hok9 := ok_do HOK6.out.1 HXO.out hcode
        have M9 := Lib.hid (HM9.out hcode)
        have HOK9 := Lib.hid hok9
        rw [hcode]
        clear hok9 HM9
        have HC := Lib.hid hcode
        clear hcode
        go_wp2_with fail
        refine (l07Live_any (doTo m x) W7.heap.size W9 M9.out.rd HOK9.out).mono ?_
        rintro e W10 ⟨v10, rfl, hown10, hb10⟩
        have HL10 := Lib.hid (HL9.out.below (hb10.mono (Nat.le_refl _)))
        have HO10 := Lib.hid (HO9.out.below hb10 HO9.out.2.2)
        have M10 := Lib.hid (M9.out.below hb10)
        obtain ⟨A10, c10, rfl, hlvl, -⟩ := hown10.cells
        have hz10 : W9.heap.size ≤ W10.heap.size := hb10.size
        clear hown10 hb10 HL9 HO9 M9
        by_cases h9 : (liveL (doTo m x)).length ≤ 9
        · have h9i : ((liveL (doTo m x)).length : Int) ≤ 9 := by omega
          obtain ⟨x0, x1, x2, x3, x4, x5, x6⟩ := M10.out.cells.seven
          obtain ⟨y0, y1, y2, y3, y4, y5, y6⟩ := HL10.out.mst.cells.seven
          have yf := fun i => HL10.out.mst.frozen i
          obtain ⟨A1', c1', A2', c2', A3', c3', A4', c4', A5', c5', g1, g2, g3, g4, g5⟩ := M10.out.slices
          have HG := Lib.hid (And.intro g1 (And.intro g2 (And.intro g3 (And.intro g4 g5))))
          rw [g1] at x2
          rw [g2] at x3
          rw [g3] at x4
          rw [g4] at x5
          rw [g5] at x6
          clear g1 g2 g3 g4 g5
          have hb5 : w2.heap.size < W5.heap.size := hmb5
          have hne2 : w2.heap.size ≠ W7.heap.size := by omega
          have hne5 : w2.heap.size ≠ W5.heap.size := by omega
          obtain ⟨p0, p1, p2, p3, p4, p5, p6, p7⟩ := HO10.out.eight
          have hfar5 := far_cell hne5
          have hfar7 := far_cell hne2
          clear p0 p1 p2 p3 p4 p5 p6 p7 hfar5
          obtain ⟨S11, hL11⟩ := HL10.out.next M10.out ⟨HOK9.out, by rw [doTo_wd]; exact HOK6.out.2⟩ (doTo_wd m x) (by omega) (fun q hq => by have := HV5.out q hq; omega) (by omega) hgs
          obtain ⟨g1, g2, g3, g4, g5⟩ := HG.out
          rw [g1, g2, g3, g4, g5] at hL11
          have HL11 := Lib.hid hL11
          clear hL11 g1 g2 g3 g4 g5
          have HO11 : Hid (Bx (((((((W10.setCell ⟨w2.heap.size, 0, none⟩ (.int .i64 (doTo m x).wd)).setCell ⟨w2.heap.size, 1, none⟩ (.int .i64 (doTo m x).rk)).setCell ⟨w2.heap.size, 2, none⟩ (.slice A1' (doTo m x).fr.length c1')).setCell ⟨w2.heap.size, 3, none⟩ (.slice A2' (doTo m x).bk.length c2')).setCell ⟨w2.heap.size, 4, none⟩ (.slice A3' (doTo m x).cs.length c3')).setCell ⟨w2.heap.size, 5, none⟩ (.slice A4' (doTo m x).ls.length c4')).setCell ⟨w2.heap.size, 6, none⟩ (.slice A5' (doTo m x).dr.length c5')) W5.heap.size x.cells) := ((((((HO10.out.far (Ne.symm hne5) _ _).far (Ne.symm hne5) _ _).far (Ne.symm hne5) _ _).far (Ne.symm hne5) _ _).far (Ne.symm hne5) _ _).far (Ne.symm hne5) _ _).far (Ne.symm hne5) _ _
          go_upto_region 10 with fail
          generalize (((((((W10.setCell ⟨w2.heap.size, 0, none⟩ (.int .i64 (doTo m x).wd)).setCell ⟨w2.heap.size, 1, none⟩ (.int .i64 (doTo m x).rk)).setCell ⟨w2.heap.size, 2, none⟩ (.slice A1' (doTo m x).fr.length c1')).setCell ⟨w2.heap.size, 3, none⟩ (.slice A2' (doTo m x).bk.length c2')).setCell ⟨w2.heap.size, 4, none⟩ (.slice A3' (doTo m x).cs.length c3')).setCell ⟨w2.heap.size, 5, none⟩ (.slice A4' (doTo m x).ls.length c4')).setCell ⟨w2.heap.size, 6, none⟩ (.slice A5' (doTo m x).dr.length c5')) = W11 at *
          have hown11 := HL11.out.own
          obtain ⟨p0, p1, p2, p3, p4, p5, p6, p7⟩ := HO11.out.eight
          have hl100 : l.length ≤ 100 := by omega
          have hz11 := HL11.out.mst.size.1
          have hz11' := HL11.out.res.2.2
          clear hfar7 x0 x1 x2 x3 x4 x5 x6 y0 y1 y2 y3 y4 y5 y6 yf
          go_wp2_with (at_builtin; refine wpList_append_own_at _ rfl _ _ 24 rfl w.heap.size 55 io _ 8 64 Try.underlying24 hio ho0 ho1 ho2 rfl (by decide) _ _ _ rfl (hown11.alloc _) ⟨_, 0, none⟩ 1 1 x.cells rfl rfl (new_cells' _ _ (by simp)) (by intro u hu; simp at hu; rcases hu with rfl | rfl | rfl | rfl | rfl | rfl | rfl | rfl <;> rfl) (by unfold maxLen; omega) (by omega) (by (try simp); omega) ?_)
          intro v' wa hown hgrow _ hat
          have hL12 := Lib.hid (HL11.out.append (o := .cells x.cells.toArray 55) hgs (by rw [doTo_wd]; exact HXO.out) hown hgrow hat)
          clear hown hgrow hat hown11 p0 p1 p2 p3 p4 p5 p6 p7 HL11 HO11
          go_wp2_with fail
          refine ⟨⟨n - 1, doTo m x, S11, l ++ [x], _, rfl, by omega, by simp; omega, by go_num, ?_, by unfold Hid; rw [doTo_wd]; exact run_snoc HRN.out HC.out⟩, by simp [intOf]; omega⟩
          rw [show K + 4 + 20 * ((n0 : Int) - ((n - 1 : Nat) : Int)) = K + 4 + 20 * ((n0 : Int) - n) + 20 by omega]
          exact hL12.out
        · have h9i : ¬ ((liveL (doTo m x)).length : Int) ≤ 9 := by omega
          go_wp2
          have h9 := HL10.out
          refine ⟨⟨n - 1, m, Sk, l, _, rfl, by omega, by omega, by go_num, ?_, HRN.out⟩, by simp [intOf]; omega⟩
          rw [show K + 4 + 20 * ((n0 : Int) - ((n - 1 : Nat) : Int)) = K + 4 + 20 * ((n0 : Int) - n) + 20 by omega]
          exact h9
      · go_wp2
        have h9 := HL9.out
        refine ⟨⟨n - 1, m, Sk, l, _, rfl, by omega, by omega, by go_num, ?_, HRN.out⟩, by simp [intOf]; omega⟩
        rw [show K + 4 + 20 * ((n0 : Int) - ((n - 1 : Nat) : Int)) = K + 4 + 20 * ((n0 : Int) - n) + 20 by omega]
        exact h9
theorem l07Draw_any {w : World} {gs : Nat} {K most : Int} (hS : Src w gs K) (hm0 : 0 ≤ most) (hm1 : most ≤ 100) (hK : K + 4 + 20 * most ≤ 1000000000) :
    Calls Try.prog 45 #[.pointer (some ⟨gs, 0, none⟩), .int .i64 most] w (DrawnM w gs (K + 4 + 20 * most)) :=
  (l07DrawL_any hS hm0 hm1 hK).mono fun e w' ⟨m, S, g, v, l, h1, h2, h3, h4, h5, h6, h7, _, _, h8, h9⟩ => ⟨m, S, g, v, l, h1, h2, h3, h4, h5, h6, h7, h8, h9⟩

end Go.Proofs.Ytolcgopfbbmjgaa

/-
  Programs that are drawn and run: l08Draw, A2Program, RunMachine.
-/
namespace Go.Proofs.Ytolcgopfbbmjgaa
set_option linter.unusedVariables false
set_option linter.unusedSimpArgs false
open Go.RowKit

/-- A program that runs. -/
structure RunsO (n : Int) (l : List Opr) (m : Mc) : Prop where
  n2 : 2 ≤ n
  n24 : n ≤ 24
  len : l.length ≤ 20
  ops : ∀ x ∈ l, okOpW n x = true
  run : runM (newMc n) l = some m
theorem RunsO.opsB {n : Int} {l : List Opr} {m : Mc} (h : RunsO n l m) : opsB n l = true ∧ Go.Proofs.Ytolcgopfbbmjgaa.opsB 24 l = true := by
  unfold Go.Proofs.Ytolcgopfbbmjgaa.opsB
  simp only [Bool.and_eq_true, decide_eq_true_eq, inB_iff, List.all_eq_true]
  have h1 := h.n2
  have h2 := h.n24
  have h3 := h.len
  refine ⟨⟨⟨by omega, h2⟩, by omega, h.ops⟩, ⟨by omega, by omega⟩, by omega, fun x hx => ?_⟩
  have h4 := h.ops x hx
  unfold okOpW at h4 ⊢
  simp only [Bool.and_eq_true, decide_eq_true_eq] at h4 ⊢
  exact ⟨h4.1, by omega, by omega⟩
set_option maxHeartbeats 4000000 in
set_option maxRecDepth 100000 in
theorem l08DrawR_any {w : World} {gs : Nat} {K : Int} (hS : Src w gs K) (hK : K + 404 ≤ 1000000000) :
    Calls Try.prog 26 #[.pointer (some ⟨gs, 0, none⟩)] w fun e w' => ∃ n v l m, e = .returned (.tuple #[.int .i64 n, v]) ∧ RunsO n l m ∧ w'.ownsRow w.heap.size 55 8 v l.length (vS Opr.cells l) ∧ Only gs (gs + 1) w w' := by
  have HS := Lib.hid hS
  have hgs := hS.lt
  clear hS
  go_enter Try.func26, Try.ntmps26
  go_wp2_with fail
  refine (l07DrawL_any (most := 20) HS.out (by omega) (by omega) (by omega)).mono ?_
  rintro e w1 ⟨m, S, g0, v, l, rfl, hok, hwd2, hM, hown, -, hops, hlen, hrun, -, ho1⟩
  have hwd := (okM_iff.1 hok).wd
  have HX := Lib.hid (show RunsO m.wd l m from ⟨hwd2, hwd.2, by omega, hops, hrun⟩)
  have HO := Lib.hid (And.intro hown ho1)
  obtain ⟨A1, c1, A2, c2, A3, c3, A4, c4, A5, c5, q1, q2, q3, q4, q5⟩ := hM.slices
  rw [q1, q2, q3, q4, q5]
  obtain ⟨A6, c6, rfl⟩ := own_shape hown
  clear hM hown ho1 q1 q2 q3 q4 q5 hok hwd hwd2 hlen hops hrun
  go_wp2
  go_ret2
  exact ⟨m.wd, _, l, m, rfl, HX.out, HO.out.1.alloc _, HO.out.2.trans (Only.of_below ((Below.refl _ _).alloc (Nat.le_refl _) _))⟩
theorem a2Prog_any (v0 : Value) (w : World) (hb : RdB w w.heap.size v0) :
    Calls Try.prog 13 #[v0] w fun e w' => ∃ n v l m, e = .returned (.tuple #[.int .i64 n, v]) ∧ RunsO n l m ∧ RdO w' w'.heap.size v l ∧ Below w.heap.size w w' := by
  have HF := Lib.hid (l00From_any w v0 hb)
  obtain ⟨A, N, c, rfl, -⟩ := hb
  go_enter Try.func13, Try.ntmps13
  go_wp2_with fail
  refine HF.out.mono ?_
  rintro e w1 ⟨rfl, hS, hb1, hz1⟩
  have HB1 := Lib.hid hb1
  have HS := Lib.hid hS
  clear hb1 hS HF
  go_wp2_with fail
  refine (l08DrawR_any HS.out (by omega)).mono ?_
  rintro e w2 ⟨n, v, l, m, rfl, hr, hown, hO⟩
  have HX := Lib.hid hr
  have HB2 := Lib.hid (show Below w.heap.size w w2 from HB1.out.trans (hO.below (Nat.le_refl _) (by omega)))
  have HRD := Lib.hid (show RdO w2 w2.heap.size v l from RdS.of_own Opr.len (OwC.of_own hown))
  obtain ⟨A6, c6, rfl⟩ := own_shape hown
  clear hr hown hO
  go_wp2
  go_ret2
  exact ⟨n, _, l, m, rfl, HX.out, HRD.out, HB2.out⟩

end Go.Proofs.Ytolcgopfbbmjgaa

/-
  RunMachine of the reference, where all operations can be executed.
-/
namespace Go.Proofs.Ytolcgopfbbmjgaa
set_option linter.unusedVariables false
set_option linter.unusedSimpArgs false
open Go.RowKit

theorem runM_step {m0 m : Mc} {l : List Opr} {k : Nat} {x : Opr} (h : runM m0 (l.drop k) = some m) (hx : l[k]? = some x) : doCode m0 x = 0 ∧ runM (doTo m0 x) (l.drop (k + 1)) = some m := by
  rw [drop_of_get hx, runM] at h
  split at h
  · rename_i hc
    exact ⟨hc, h⟩
  · cases h
theorem runM_done {m0 m : Mc} {l : List Opr} {k : Nat} (h : runM m0 (l.drop k) = some m) (hk : l.length ≤ k) : m0 = m := by
  rw [List.drop_of_length_le hk, runM] at h
  injection h
/-- The state of RunMachine. -/
structure RnSt (w : World) (b : Nat) (n : Int) (m : Mc) (S : Nat → Spot) (wr : World) : Prop where
  ok : okM m = true
  wd : m.wd = n
  mst : MSt wr w.heap.size b m S
  res : Bx wr w.heap.size zeroM
  rne : ¬ blk S w.heap.size
  bel : Below w.heap.size w wr
theorem RnSt.below {w : World} {b : Nat} {n : Int} {m : Mc} {S : Nat → Spot} {wr wy : World} (h : RnSt w b n m S wr) (hb : Below wr.heap.size wr wy) : RnSt w b n m S wy :=
  ⟨h.ok, h.wd, h.mst.below hb, h.res.below hb h.res.2.2, h.rne, h.bel.trans (hb.mono h.bel.size)⟩
theorem below_set7M {B : Nat} {a w : World} (h : Below B a w) {b o0 o1 o2 o3 o4 o5 o6 : Nat} (hb : B ≤ b) (u0 u1 u2 u3 u4 u5 u6 : Value) :
    Below B a (((((((w.setCell ⟨b, o0, none⟩ u0).setCell ⟨b, o1, none⟩ u1).setCell ⟨b, o2, none⟩ u2).setCell ⟨b, o3, none⟩ u3).setCell ⟨b, o4, none⟩ u4).setCell ⟨b, o5, none⟩ u5).setCell ⟨b, o6, none⟩ u6) :=
  ((((((h.setCell hb _).setCell hb _).setCell hb _).setCell hb _).setCell hb _).setCell hb _).setCell hb _
theorem RnSt.next {w : World} {b g B' : Nat} {n : Int} {m m' : Mc} {S S7 : Nat → Spot} {wr : World} (h : RnSt w b n m S wr) (hM : MSt wr B' g m' S7) (ok' : okM m' = true) (hwd : m'.wd = m.wd) (hb : b < B') (hw : w.heap.size < B') :
    ∃ S', RnSt w b n m' S' (((((((wr.setCell ⟨b, 0, none⟩ (.int .i64 m'.wd)).setCell ⟨b, 1, none⟩ (.int .i64 m'.rk)).setCell ⟨b, 2, none⟩ (S7 1).v).setCell ⟨b, 3, none⟩ (S7 2).v).setCell ⟨b, 4, none⟩ (S7 3).v).setCell ⟨b, 5, none⟩ (S7 4).v).setCell ⟨b, 6, none⟩ (S7 5).v) := by
  have hbx := h.mst.sp.own 0
  rw [h.mst.box] at hbx
  have hbx : wr.ownsRow w.heap.size 41 7 (.slice (some ⟨b, 0, none⟩) 1 1) 1 [.int .i64 m.wd, .int .i64 m.rk, (S 1).v, (S 2).v, (S 3).v, (S 4).v, (S 5).v] := hbx
  obtain ⟨S', h1, h2, h3⟩ := hM.over hbx (Nat.le_of_lt hw) hb
  have hb0 : w.heap.size ≤ b := h.mst.size.2
  have hbn : b ≠ w.heap.size := fun e => h.rne ⟨0, by rw [h.mst.gbox, e]⟩
  have hblk : ∀ q, blk S' q → q = b ∨ B' ≤ q := fun q ⟨j, hj⟩ => by
    by_cases e : j = 0
    · subst e
      rw [h3] at hj
      injection hj with hj
      exact .inl hj.symm
    · rw [h2 j e] at hj
      exact .inr (hM.sp.lt hj).1
  refine ⟨S', ok', hwd.trans h.wd, h1, ?_, fun hs => ?_, below_set7M h.bel hb0 _ _ _ _ _ _ _⟩
  · have hr := fun e => hbn (Eq.symm e)
    exact ((((((h.res.far hr _ _).far hr _ _).far hr _ _).far hr _ _).far hr _ _).far hr _ _).far hr _ _
  · rcases hblk _ hs with e | e
    · exact hbn e.symm
    · omega

set_option maxHeartbeats 16000000 in
set_option maxRecDepth 100000 in
theorem runMachine_any (n : Int) (v : Value) (l : List Opr) (w : World) (hl : RdO w w.heap.size v l) (hok : opsB n l = true) (m : Mc) (hrun : runM (newMc n) l = some m) :
    Calls Try.prog 15 #[.int .i64 n, v] w fun e w' => ∃ vm, e = .returned (.tuple #[vm, .int .i64 (l.length : Int), .int .i64 0]) ∧ RdM w' w'.heap.size vm m ∧ Below w.heap.size w w' := by
  have hlen := ops_len hok
  have hn : 1 ≤ n ∧ n ≤ 24 := by
    have h := hok
    unfold opsB at h
    simp only [Bool.and_eq_true] at h
    exact inB_iff.1 h.1
  have HOP := Lib.hid (show ∀ x ∈ l, okOpW n x = true by
    have h := hok
    unfold opsB at h
    simp only [Bool.and_eq_true, List.all_eq_true] at h
    exact h.2.2)
  have HV := Lib.hid (fun (w1 : World) (hb : Below w.heap.size w w1) => l07Ops_any n v l w1 ((hl.below hb).more hb.size))
  have HNK := Lib.hid (show okM (newMc n) = true from okM_iff.2 (okM_new hn.1 hn.2))
  have HRU := Lib.hid (show runM (newMc n) (l.drop 0) = some m from hrun)
  have HR := Lib.hid (Bx.new w zeroM 41)
  have HWD := Lib.hid (show (newMc n).wd = n from rfl)
  rw [hok] at HV
  obtain ⟨A, N, c, rfl, hln, hl', gl⟩ := hl
  have GL := Lib.hid gl
  have HLN := Lib.hid hl'.out
  have hN15 : N ≤ 1500 := by have := hl'.out; omega
  clear gl hl' hok hrun
  go_enter Try.func15, Try.ntmps15
  go_wp2_with fail
  refine (HV.out _ ((Below.refl _ _).alloc (Nat.le_refl _) _)).mono ?_
  rintro e w1 ⟨rfl, hb1⟩
  have HB1 := Lib.hid (((Below.refl _ _).alloc (Nat.le_refl _) (.cells zeroM.toArray 41)).trans (hb1.mono (by rw [World.size_alloc]; omega)))
  have HR1 := Lib.hid (HR.out.below hb1 (by rw [World.size_alloc]; omega))
  have hz1 : w.heap.size < w1.heap.size := by have := hb1.size; rw [World.size_alloc] at this; exact this
  clear hb1 HR HV
  go_wp2_with fail
  refine (l07New_any n hn.1 hn.2 w1).mono ?_
  rintro e w2 ⟨S0, g0, rfl, hM0, hB0⟩
  have hz2 : w1.heap.size ≤ w2.heap.size := hB0.size
  obtain ⟨S2, hM2, hS2, hb2⟩ := hM0.rebox hz2
  obtain ⟨A1, c1, A2, c2, A3, c3, A4, c4, A5, c5, q1, q2, q3, q4, q5⟩ := hM0.slices
  rw [q1, q2, q3, q4, q5] at hM2
  rw [q1, q2, q3, q4, q5]
  have hbA : Below w1.heap.size w1 (w2.alloc (.cells (mcV (newMc n).wd (newMc n).rk (.slice A1 (newMc n).fr.length c1) (.slice A2 (newMc n).bk.length c2) (.slice A3 (newMc n).cs.length c3) (.slice A4 (newMc n).ls.length c4) (.slice A5 (newMc n).dr.length c5)) 41)) := hB0.alloc hz2 _
  have HL0 := Lib.hid (show RnSt w w2.heap.size n (newMc n) S2 (w2.alloc (.cells (mcV (newMc n).wd (newMc n).rk (.slice A1 (newMc n).fr.length c1) (.slice A2 (newMc n).bk.length c2) (.slice A3 (newMc n).cs.length c3) (.slice A4 (newMc n).ls.length c4) (.slice A5 (newMc n).dr.length c5)) 41)) from
    ⟨HNK.out, HWD.out, hM2.base (by omega), HR1.out.below hbA hz1, fun ⟨j, hj⟩ => by have := (hM2.sp.lt hj).1; omega, HB1.out.trans (hbA.mono (by omega))⟩)
  clear hM2 hM0 hB0 hS2 hb2 q1 q2 q3 q4 q5 hbA HB1 HR1 HWD HNK
  generalize newMc n = m0 at *
  go_wp2_with fail
  go_loopw [8] (fun s8 wr => ∃ (k : Nat) (mk : Mc) (Sk : Nat → Spot) (wq : World), wq = wr ∧ k ≤ N ∧ s8 = .int .i64 (k : Int) ∧ Hid (RnSt w w2.heap.size n mk Sk wq) ∧ Hid (runM mk (l.drop k) = some m)) (fun s8 _ => N - (intOf s8).toNat)
  case atStart => exact ⟨0, m0, S2, _, rfl, Nat.zero_le _, rfl, HL0.out, HRU.out⟩
  case round =>
    clear HL0 HRU
    obtain ⟨k, mk, Sk, wq, hwq, hk, rfl, HLr, HRN⟩ := hrel
    subst hwq
    by_cases hlt : k < N
    · obtain ⟨bo, oo, x, rfl, hbo, hlk, hcx⟩ := GL.out k hlt
      obtain ⟨hc0, hrn⟩ := runM_step HRN.out hlk
      have HC0 := Lib.hid hc0
      have HRN2 := Lib.hid hrn
      have HXO := Lib.hid (show okOpW mk.wd x = true by rw [HLr.out.wd]; exact HOP.out x (List.mem_of_getElem? hlk))
      have HCX := Lib.hid hcx
      have hkN : (k : Int) < (N : Int) := by omega
      clear hlk hcx hc0 hrn HRN
      go_wp2_with fail
      refine (l07Own_any mk w2.heap.size wq HLr.out.mst.rd HLr.out.ok).mono ?_
      rintro e W7 ⟨S7, g7, rfl, hM7, hB7⟩
      have hz7 : wq.heap.size ≤ W7.heap.size := hB7.size
      obtain ⟨S8, hM8, hS8, hb8⟩ := hM7.rebox hz7
      obtain ⟨A1, c1, A2, c2, A3, c3, A4, c4, A5, c5, q1, q2, q3, q4, q5⟩ := hM7.slices
      rw [q1, q2, q3, q4, q5] at hM8
      rw [q1, q2, q3, q4, q5]
      have hmb : w2.heap.size < wq.heap.size := HLr.out.mst.size.1
      have hrs : w.heap.size < wq.heap.size := HLr.out.res.2.2
      have hA8 : Below wq.heap.size wq (W7.alloc (.cells (mcV mk.wd mk.rk (.slice A1 mk.fr.length c1) (.slice A2 mk.bk.length c2) (.slice A3 mk.cs.length c3) (.slice A4 mk.ls.length c4) (.slice A5 mk.dr.length c5)) 41)) := hB7.alloc hz7 _
      have M8 := Lib.hid hM8
      have HL8 := Lib.hid (HLr.out.below hA8)
      clear hM7 hB7 hM8 hS8 hb8 q1 q2 q3 q4 q5
      go_wp2_with fail
      generalize W7.alloc (.cells (mcV mk.wd mk.rk (.slice A1 mk.fr.length c1) (.slice A2 mk.bk.length c2) (.slice A3 mk.cs.length c3) (.slice A4 mk.ls.length c4) (.slice A5 mk.dr.length c5)) 41) = W8 at *
      have hz8 : wq.heap.size ≤ W8.heap.size := hA8.size
      refine (l07Do_any M8.out (by omega) x bo (oo + k * 8) (HCX.out.below HL8.out.bel hbo) (fun ⟨j, hj⟩ => by have := (M8.out.sp.lt hj).1; omega) HLr.out.ok HXO.out).mono ?_
      rintro e W9 ⟨rfl, S9, hmv, hM9⟩
      have hB9 : Below wq.heap.size W8 W9 := hmv.below M8.out.sp hz8
      have HL9 := Lib.hid (HLr.out.below (hA8.trans hB9))
      have M9 := Lib.hid (hM9 HC0.out)
      have HOK9 := Lib.hid (ok_do HLr.out.ok HXO.out HC0.out)
      rw [HC0.out]
      clear hmv hM9 hB9 M8 HL8 hA8 HCX
      obtain ⟨x0, x1, x2, x3, x4, x5, x6⟩ := M9.out.cells.seven
      obtain ⟨y0, y1, y2, y3, y4, y5, y6⟩ := HL9.out.mst.cells.seven
      have yf := fun i => HL9.out.mst.frozen i
      obtain ⟨S11, hL11⟩ := HL9.out.next M9.out HOK9.out (doTo_wd mk x) (by omega) (by omega)
      obtain ⟨A1', c1', A2', c2', A3', c3', A4', c4', A5', c5', g1, g2, g3, g4, g5⟩ := M9.out.slices
      rw [g1] at x2
      rw [g2] at x3
      rw [g3] at x4
      rw [g4] at x5
      rw [g5] at x6
      rw [g1, g2, g3, g4, g5] at hL11
      have HL11 := Lib.hid hL11
      clear hL11 g1 g2 g3 g4 g5
      have hne2 : w2.heap.size ≠ W7.heap.size := by omega
      have hz9 : wq.heap.size ≤ W9.heap.size := Nat.le_of_lt (Nat.lt_of_le_of_lt hz7 M9.out.size.1)
      go_wp2_with fail
      exact ⟨⟨k + 1, doTo mk x, S11, _, rfl, by omega, by go_num, HL11.out, HRN2.out⟩, by simp [intOf]; omega⟩
    · have hmm := runM_done HRN.out (by have := HLN.out; omega)
      subst hmm
      obtain ⟨x0, x1, x2, x3, x4, x5, x6⟩ := HLr.out.mst.cells.seven
      obtain ⟨y0, y1, y2, y3, y4, y5, y6⟩ := CellsAt.seven HLr.out.res.1
      have yf := HLr.out.res.2.1
      obtain ⟨A1', c1', A2', c2', A3', c3', A4', c4', A5', c5', g1, g2, g3, g4, g5⟩ := HLr.out.mst.slices
      have HG := Lib.hid (And.intro g1 (And.intro g2 (And.intro g3 (And.intro g4 g5))))
      rw [g1] at x2
      rw [g2] at x3
      rw [g3] at x4
      rw [g4] at x5
      rw [g5] at x6
      clear g1 g2 g3 g4 g5
      have hgr : w2.heap.size ≠ w.heap.size := by omega
      go_wp2
      refine bodyPost_ret (v := .tuple #[.agg (mcV mk.wd mk.rk (.slice A1' mk.fr.length c1') (.slice A2' mk.bk.length c2') (.slice A3' mk.cs.length c3') (.slice A4' mk.ls.length c4') (.slice A5' mk.dr.length c5')), .int .i64 (N : Int), .int .i64 0]) (by simp [results, Try.results15, go_sem, y0, y1, y2, y3, y4, y5, y6, World.cell?_setCell_other]) rfl ?_
      obtain ⟨g1, g2, g3, g4, g5⟩ := HG.out
      have h := HLr.out
      refine ⟨_, by rw [HLN.out], ?_, below_set7M h.bel (Nat.le_refl _) _ _ _ _ _ _ _⟩
      have hk := h.mst.keep (w' := (((((((wq.setCell ⟨w.heap.size, 0, none⟩ (.int .i64 mk.wd)).setCell ⟨w.heap.size, 1, none⟩ (.int .i64 mk.rk)).setCell ⟨w.heap.size, 2, none⟩ (.slice A1' mk.fr.length c1')).setCell ⟨w.heap.size, 3, none⟩ (.slice A2' mk.bk.length c2')).setCell ⟨w.heap.size, 4, none⟩ (.slice A3' mk.cs.length c3')).setCell ⟨w.heap.size, 5, none⟩ (.slice A4' mk.ls.length c4')).setCell ⟨w.heap.size, 6, none⟩ (.slice A5' mk.dr.length c5'))) (fun j q hq => set7_heap _ _ _ _ _ _ _ _ _ _ (fun e => h.rne ⟨j, by rw [hq, e]⟩))
      have hv := hk.val
      rw [g1, g2, g3, g4, g5] at hv
      exact hv

end Go.Proofs.Ytolcgopfbbmjgaa
