/-
  A normal form in a box, of the program: what is kept, and flipAll.
-/
import Derived.Test.YtfeonaocmnpkcaaGarA
import Derived.Test.YtfeonaocmnpkcaaGarJ
import Derived.Test.YtfeonaocmnpkcaaOff
import Derived.Test.YtfeonaocmnpkcaaGarE
namespace Go.Proofs.Ytfeonaocmnpkcaa
set_option linter.unusedVariables false
set_option linter.unusedSimpArgs false
open Go.RowKit

/-- A factor: its block, its room, and what it is. -/
structure Fh where
  g : Nat
  c : Nat
  p : Pm
  f : Nat → Value
def Fh.hd (n : Nat) (h : Fh) : Value := .slice (some ⟨h.g, 0, none⟩) n h.c
/-- The factors, each in a block of its own. -/
structure Fac (n lo gb : Nat) (w : World) (v : Value) (H : List Fh) : Prop where
  off : OffRow w lo 22 v H.length (H.map (Fh.hd n))
  row : ∀ h ∈ H, RowP n w h.g h.c h.p h.f
  on : ∀ h ∈ H, h.p.On n
  lo : ∀ h ∈ H, lo ≤ h.g
  ob : ∀ h ∈ H, some h.g ≠ v.ownBlock ∧ h.g ≠ gb
  nd : (H.map Fh.g).Nodup
  vb : v.ownBlock ≠ some gb
/-- The box. -/
def BoxN (n gb : Nat) (w : World) (pw : Int) (v : Value) : Prop := ∃ F, w.rowIs gb 86 3 F ∧ F 0 = .int .i64 (n : Int) ∧ F 1 = .int .i64 pw ∧ F 2 = v
theorem BoxN.cells {n gb : Nat} {w : World} {pw : Int} {v : Value} (h : BoxN n gb w pw v) : w.cell? ⟨gb, 0, none⟩ = some (.int .i64 (n : Int)) ∧ w.cell? ⟨gb, 1, none⟩ = some (.int .i64 pw) ∧ w.cell? ⟨gb, 2, none⟩ = some v := by
  obtain ⟨F, hr, h0, h1, h2⟩ := h
  exact ⟨by rw [hr.cell (by omega), h0], by rw [hr.cell (by omega), h1], by rw [hr.cell (by omega), h2]⟩
theorem BoxN.frozen {n gb : Nat} {w : World} {pw : Int} {v : Value} (h : BoxN n gb w pw v) (i : Nat) : w.frozen? ⟨gb, i, none⟩ = false := by
  obtain ⟨F, hr, _⟩ := h
  exact hr.frozen i
theorem BoxN.lt {n gb : Nat} {w : World} {pw : Int} {v : Value} (h : BoxN n gb w pw v) : gb < w.heap.size := by
  obtain ⟨F, hr, _⟩ := h
  exact hr.lt
theorem BoxN.block {n gb : Nat} {w w' : World} {pw : Int} {v : Value} (h : BoxN n gb w pw v) (hb : w'.heap[gb]? = w.heap[gb]?) : BoxN n gb w' pw v := by
  obtain ⟨F, hr, h1⟩ := h
  exact ⟨F, hr.of_block hb, h1⟩
theorem BoxN.pw {n gb : Nat} {w : World} {pw : Int} {v : Value} (h : BoxN n gb w pw v) (q : Int) : BoxN n gb (w.setCell ⟨gb, 1, none⟩ (.int .i64 q)) q v := by
  obtain ⟨F, hr, h0, h1, h2⟩ := h
  exact ⟨_, hr.set 1 _, h0, rfl, h2⟩
theorem BoxN.fac {n gb : Nat} {w : World} {pw : Int} {v : Value} (h : BoxN n gb w pw v) (u : Value) : BoxN n gb (w.setCell ⟨gb, 2, none⟩ u) pw u := by
  obtain ⟨F, hr, h0, h1, h2⟩ := h
  exact ⟨_, hr.set 2 _, h0, h1, rfl⟩
theorem BoxN.far {n gb : Nat} {w : World} {pw : Int} {v : Value} (h : BoxN n gb w pw v) {p : Addr} (hp : p.block ≠ gb) (u : Value) : BoxN n gb (w.setCell p u) pw v := by
  obtain ⟨F, hr, h1⟩ := h
  exact ⟨F, hr.setOther (fun e => hp e.symm) _, h1⟩

theorem Fac.nil (n lo gb : Nat) (w : World) : Fac n lo gb w (.slice none 0 0) [] :=
  ⟨OffRow.nil _ _ _, by simp, by simp, by simp, by simp, by simp, by simp [Value.ownBlock]⟩
/-- What lies in the blocks of the factors and of their headers stands. -/
theorem Fac.block {n lo gb : Nat} {w w' : World} {v : Value} {H : List Fh} (h : Fac n lo gb w v H) (hb : ∀ k, k < w.heap.size → k ≠ gb → w'.heap[k]? = w.heap[k]?) : Fac n lo gb w' v H :=
  ⟨h.off.block fun g hg hl => hb g hl (fun e => h.vb (by rw [hg, e])), fun x hx => (h.row x hx).block (hb _ (h.row x hx).lt (h.ob x hx).2), h.on, h.lo, h.ob, h.nd, h.vb⟩
theorem Fac.block2 {n lo gb : Nat} {w w' : World} {v : Value} {H : List Fh} (h : Fac n lo gb w v H) (hb : ∀ k, lo ≤ k → k < w.heap.size → k ≠ gb → w'.heap[k]? = w.heap[k]?) : Fac n lo gb w' v H :=
  ⟨h.off.block fun g hg hl => hb g (h.off.lt g hg).1 hl (fun e => h.vb (by rw [hg, e])), fun x hx => (h.row x hx).block (hb _ (h.lo x hx) (h.row x hx).lt (h.ob x hx).2), h.on, h.lo, h.ob, h.nd, h.vb⟩
theorem Fac.below {n lo gb : Nat} {w w' : World} {v : Value} {H : List Fh} (h : Fac n lo gb w v H) (hb : Below w.heap.size w w') : Fac n lo gb w' v H := h.block fun k hk _ => hb.block k hk
theorem Fac.box {n lo gb : Nat} {w : World} {v : Value} {H : List Fh} (h : Fac n lo gb w v H) {p : Addr} (hp : p.block = gb) (u : Value) : Fac n lo gb (w.setCell p u) v H :=
  h.block fun k _ hk => Go.Deep.blk_setCell_other _ _ _ _ (by rw [hp]; exact hk)
theorem Fac.get {n lo gb : Nat} {w : World} {v : Value} {H : List Fh} (h : Fac n lo gb w v H) {k : Nat} (hk : k < H.length) :
    ∃ g off cap x, v = .slice (some ⟨g, off, none⟩) H.length cap ∧ H[k]? = some x ∧ x ∈ H ∧ w.cell? ⟨g, off + k, none⟩ = some (.slice (some ⟨x.g, 0, none⟩) n x.c) ∧ (∀ i, w.frozen? ⟨g, i, none⟩ = false) ∧ lo ≤ g ∧ g ≠ gb ∧ g < w.heap.size ∧ x.g ≠ g := by
  obtain ⟨g, off, cap, rfl, h1, h2, h3, h4, h5, h6⟩ := h.off.base (by omega)
  have hm : H[k] ∈ H := List.getElem_mem hk
  refine ⟨g, off, cap, H[k], rfl, List.getElem?_eq_getElem hk, hm, h5 k _ (by rw [List.getElem?_map, List.getElem?_eq_getElem hk]; rfl), h6, h1, fun e => h.vb (by rw [← e]; rfl), h2, fun e => (h.ob _ hm).1 (by rw [e]; rfl)⟩
theorem nodup_at {H : List Fh} (hn : (H.map Fh.g).Nodup) {i j : Nat} {x y : Fh} (hx : H[i]? = some x) (hy : H[j]? = some y) (hij : i ≠ j) : x.g ≠ y.g := by
  intro e
  have hi := (List.getElem?_eq_some_iff.1 hx).1
  have hj := (List.getElem?_eq_some_iff.1 hy).1
  have h1 : (H.map Fh.g)[i]? = (H.map Fh.g)[j]? := by rw [List.getElem?_map, List.getElem?_map, hx, hy]; simp [e]
  exact hij ((List.getElem?_inj (by simpa using hi) hn).1 h1)
theorem nodup_set {H : List Fh} {k : Nat} {y : Fh} (hn : (H.map Fh.g).Nodup) (hy : ∀ x ∈ H, x.g ≠ y.g) : ((H.set k y).map Fh.g).Nodup := by
  refine List.pairwise_iff_getElem.2 fun i j hi hj hij => ?_
  rw [List.length_map, List.length_set] at hi hj
  have h0 := nodup_at hn (List.getElem?_eq_getElem hi) (List.getElem?_eq_getElem hj) (by omega)
  have h1 := hy _ (List.getElem_mem hi)
  have h2 := hy _ (List.getElem_mem hj)
  simp only [List.getElem_map, List.getElem_set]
  by_cases a : k = i
  · rw [if_pos a, if_neg (by omega)]
    exact fun e => h2 e.symm
  · rw [if_neg a]
    by_cases b : k = j
    · rw [if_pos b]
      exact h1
    · rw [if_neg b]
      exact h0
/-- A factor replaced by a fresh one. -/
theorem Fac.set {n lo gb g off cap : Nat} {w : World} {H : List Fh} {k : Nat} {y : Fh} (h : Fac n lo gb w (.slice (some ⟨g, off, none⟩) H.length cap) H) (hk : k < H.length) (hr : RowP n w y.g y.c y.p y.f) (hon : y.p.On n)
    (hlo : lo ≤ y.g) (hne : ∀ x ∈ H, x.g ≠ y.g) (hg : y.g ≠ g) (hgb : y.g ≠ gb) : Fac n lo gb (w.setCell ⟨g, off + k, none⟩ (y.hd n)) (.slice (some ⟨g, off, none⟩) H.length cap) (H.set k y) := by
  refine ⟨?_, fun x hx => ?_, fun x hx => ?_, fun x hx => ?_, fun x hx => ?_, nodup_set h.nd hne, h.vb⟩
  · have := h.off.set (s := y.hd n) hk
    rw [List.length_set, List.map_set]
    exact this
  · rcases List.mem_or_eq_of_mem_set hx with h1 | rfl
    · exact (h.row x h1).block (Go.Deep.blk_setCell_other _ _ _ _ (fun e => (h.ob x h1).1 (congrArg some e)))
    · exact hr.block (Go.Deep.blk_setCell_other _ _ _ _ hg)
  · rcases List.mem_or_eq_of_mem_set hx with h1 | rfl
    · exact h.on x h1
    · exact hon
  · rcases List.mem_or_eq_of_mem_set hx with h1 | rfl
    · exact h.lo x h1
    · exact hlo
  · rcases List.mem_or_eq_of_mem_set hx with h1 | rfl
    · exact h.ob x h1
    · exact ⟨fun e => hg (by injection e), hgb⟩
/-- The first factor taken off. -/
theorem Fac.tail {n lo gb g off cap : Nat} {w : World} {x : Fh} {T : List Fh} (h : Fac n lo gb w (.slice (some ⟨g, off, none⟩) (x :: T).length cap) (x :: T)) :
    Fac n lo gb w (if cap = 1 then .slice (some ⟨g, off, none⟩) T.length (cap - 1) else .slice (some ⟨g, off + 1, none⟩) T.length (cap - 1)) T := by
  have ho : (if cap = 1 then Value.slice (some ⟨g, off, none⟩) T.length (cap - 1) else .slice (some ⟨g, off + 1, none⟩) T.length (cap - 1)).ownBlock = some g := by split <;> rfl
  have hb := h.ob
  have hv := h.vb
  refine ⟨h.off.tail, fun y hy => h.row y (List.mem_cons_of_mem _ hy), fun y hy => h.on y (List.mem_cons_of_mem _ hy), fun y hy => h.lo y (List.mem_cons_of_mem _ hy), fun y hy => ?_, (List.nodup_cons.1 h.nd).2, ?_⟩
  · rw [ho]
    exact hb y (List.mem_cons_of_mem _ hy)
  · rw [ho]
    exact hv
/-- The last factor taken off. -/
theorem Fac.init {n lo gb g off cap : Nat} {w : World} {x : Fh} {T : List Fh} (h : Fac n lo gb w (.slice (some ⟨g, off, none⟩) (T ++ [x]).length cap) (T ++ [x])) : Fac n lo gb w (.slice (some ⟨g, off, none⟩) T.length cap) T := by
  have ho := h.off
  rw [List.length_append, List.map_append] at ho
  have ho := OffRow.init ho
  rw [List.take_append_of_le_length (by simp), List.take_of_length_le (by simp)] at ho
  have hn := h.nd
  rw [List.map_append] at hn
  exact ⟨ho, fun y hy => h.row y (List.mem_append_left _ hy), fun y hy => h.on y (List.mem_append_left _ hy), fun y hy => h.lo y (List.mem_append_left _ hy), fun y hy => h.ob y (List.mem_append_left _ hy), (List.nodup_append.1 hn).1, h.vb⟩
theorem Fac.drew {n lo gb : Nat} {w : World} {v : Value} {H : List Fh} (h : Fac n lo gb w v H) : Fac n lo gb w.drew v H := h.block fun _ _ _ => rfl
theorem BoxN.drew {n gb : Nat} {w : World} {pw : Int} {v : Value} (h : BoxN n gb w pw v) : BoxN n gb w.drew pw v := h.block rfl

theorem OffRow.le {w : World} {lo : Nat} {E : TypeId} {g off n cap : Nat} {xs : List Value} (h : OffRow w lo E (.slice (some ⟨g, off, none⟩) n cap) n xs) : n ≤ cap ∧ cap ≤ maxLen := by
  obtain ⟨A, c, e, h1, h2⟩ := h.shape
  injection e with _ _ e
  subst e
  exact ⟨h1, h2⟩

theorem flip_next {n m k : Nat} {H : List Fh} {q : Pm} (hm : H.length = m) (hk : k < m) (hq : some q = (flipL n ((H.map Fh.p).take k) ++ (H.map Fh.p).drop k)[k]?) :
    (flipL n ((H.map Fh.p).take k) ++ (H.map Fh.p).drop k).set k (Pm.flip n q) = flipL n ((H.map Fh.p).take (k + 1)) ++ (H.map Fh.p).drop (k + 1) := by
  generalize hL : H.map Fh.p = L at *
  have hl : L.length = m := by rw [← hL, List.length_map, hm]
  have hlen : (flipL n (L.take k)).length = k := by unfold flipL; rw [List.length_map, List.length_take]; omega
  rw [List.getElem?_append_right (by omega), hlen, Nat.sub_self, List.getElem?_drop, Nat.add_zero, List.getElem?_eq_getElem (by omega)] at hq
  injection hq with hq
  rw [List.set_append_right _ _ (by omega), hlen, Nat.sub_self, List.drop_eq_getElem_cons (show k < L.length by omega), List.set_cons_zero, List.take_succ_eq_append_getElem (show k < L.length by omega), flipL_append, ← hq, List.append_assoc]
  rfl
set_option maxHeartbeats 4000000 in
set_option maxRecDepth 100000 in
theorem flipAll_any (n : Nat) (hn0 : 0 < n) (hn : n ≤ 12) (lo gb : Nat) (pw : Int) (v : Value) (H : List Fh) (w : World) (hbx : BoxN n gb w pw v) (hfc : Fac n lo gb w v H) (hlo : lo ≤ w.heap.size) :
    Calls Try.prog 91 #[.pointer (some ⟨gb, 0, none⟩)] w fun e w' => e = .returned (.tuple #[]) ∧ ∃ H', BoxN n gb w' pw v ∧ Fac n lo gb w' v H' ∧ H'.map Fh.p = flipL n (H.map Fh.p) ∧ Below lo w w' ∧ Tch (fun b => v.ownBlock = some b) w w' := by
  have HBX := Lib.hid hbx
  have HFC := Lib.hid hfc
  obtain ⟨A, c, rfl, hmc, hcm⟩ := hfc.off.shape
  generalize hm : H.length = m at *
  have HM := Lib.hid hm
  obtain ⟨-, -, b2⟩ := hbx.cells
  clear hbx hfc hm
  unfold maxLen at hcm
  go_enter Try.func91, Try.ntmps91
  go_wp2
  go_loopg [9] m (fun gk i wr => ∃ (k : Nat) (H' : List Fh), gk = m - k ∧ k ≤ m ∧ i = .int .i64 k ∧ Hid (BoxN n gb wr pw (.slice A m c)) ∧ Hid (Fac n lo gb wr (.slice A m c) H') ∧ Hid (H'.length = m) ∧ Hid (H'.map Fh.p = flipL n ((H.map Fh.p).take k) ++ (H.map Fh.p).drop k) ∧ Hid (Tch (fun b => (Value.slice A m c).ownBlock = some b) w wr) ∧ Below lo w wr)
  case atStart => exact ⟨0, H, rfl, Nat.zero_le _, rfl, HBX.out, HFC.out, HM.out, rfl, Tch.refl _ _, Below.refl _ _⟩
  case round =>
    obtain ⟨wo, rfl⟩ : ∃ x : World, x = wr := ⟨_, rfl⟩
    obtain ⟨k, H', rfl, hk, rfl, HB1, HF1, HL1, HP1, HTC, hb⟩ := hrel
    have HB := Lib.hid hb
    have hsz := hb.size
    clear hb
    by_cases hlt : k < m
    · obtain ⟨g, off, cap, x, e, hx, hxm, c0, f0, hg1, hg2, hg3, hxg⟩ := HF1.out.get (k := k) (by rw [HL1.out]; exact hlt)
      injection e with e1 e3 e2
      subst e1 e2
      clear e3
      obtain ⟨-, -, d2⟩ := HB1.out.cells
      have HX := Lib.hid hx
      have HXM := Lib.hid hxm
      have HRX := Lib.hid (HF1.out.row x hxm)
      have HOX := Lib.hid (HF1.out.on x hxm)
      have hle := HRX.out.le
      have hcx := HRX.out.cap
      unfold maxLen at hcx
      have HXL := Lib.hid HRX.out.lt
      clear hx hxm
      go_wp2
      go_region_with ((go_at_call 102; refine (flip_any n hn x.p HOX.out _ _ (((HRX.out.block (w' := wo.drew) rfl).rd))).mono ?_; rintro e w1 ⟨v1, rfl, ho1, hb1⟩; obtain ⟨g1, cap1, F1, rfl, hlo1, hhi1, hrow1, hnc1, hcap1, hval1⟩ := own_lst ho1 hn0; simp only [lst_len] at *; have hb2 : Below wo.heap.size wo w1 := (Below.refl wo.heap.size wo).drew.trans hb1; have q2 := (hb2.cell (p := ⟨gb, 2, none⟩) HB1.out.lt).trans d2; have q0 := (hb2.cell (p := ⟨g, off + k, none⟩) hg3).trans c0; have qf : ∀ i, w1.frozen? ⟨g, i, none⟩ = false := fun i => ((bcell hb2).2 _ _ hg3).trans (f0 i); have HR1 := Lib.hid (show RowP n w1 g1 cap1 (Pm.flip n x.p) F1 from ⟨hrow1, hnc1, hcap1, hval1⟩); have HB2 := Lib.hid hb2; have HG1 := Lib.hid (show wo.heap.size ≤ g1 from hlo1); clear hb1 hb2 ho1 hrow1 hval1))
      all_goals
        go_wp2
        go_roundg (m - (k + 1))
        case measure => omega
        case rel =>
          have hk' : k < H'.length := by rw [HL1.out]; exact hlt
          have hfs := Fac.set (y := ⟨g1, cap1, Pm.flip n x.p, F1⟩) (h := by rw [HL1.out]; exact HF1.out.below HB2.out) hk' HR1.out HOX.out.flip (Nat.le_trans (Nat.le_trans hlo hsz) HG1.out) (fun z hz e => absurd (HF1.out.row z hz).lt (by have := HG1.out; simp only at e; omega)) (by have := HG1.out; simp only; omega) (by have := HG1.out; have := HB1.out.lt; simp only; omega)
          rw [HL1.out] at hfs
          refine ⟨k + 1, H'.set k ⟨g1, cap1, Pm.flip n x.p, F1⟩, rfl, by omega, by go_num, (HB1.out.block (HB2.out.block _ HB1.out.lt)).far (by simpa using hg2) _, hfs, (List.length_set).trans HL1.out, ?_, (HTC.out.trans (Tch.of_below HB2.out)).setCell (p := ⟨g, off + k, none⟩) rfl _, (HB.out.trans (HB2.out.mono (Nat.le_trans hlo hsz))).setCell (p := ⟨g, off + k, none⟩) hg1 _⟩
          show (H'.set k ⟨g1, cap1, Pm.flip n x.p, F1⟩).map Fh.p = flipL n ((H.map Fh.p).take (k + 1)) ++ (H.map Fh.p).drop (k + 1)
          rw [List.map_set, HP1.out]
          exact flip_next HM.out hlt (by have h := HP1.out; have h2 := congrArg (fun l : List Pm => l[k]?) h; simp only [List.getElem?_map, HX.out] at h2; exact h2)
    · obtain rfl : k = m := by omega
      go_wp2
      go_end0
      refine ⟨rfl, H', HB1.out, HF1.out, ?_, HB.out, HTC.out⟩
      rw [HP1.out, List.take_of_length_le (by simp [HM.out]), List.drop_eq_nil_of_le (by simp [HM.out]), List.append_nil]

end Go.Proofs.Ytfeonaocmnpkcaa
