/-
  Words compared: slices.Equal at int64, spec.l00Same.
-/
import Derived.Test.YtjhhbdehgklneaaBlk
namespace Go.Proofs.Ytjhhbdehgklneaa
set_option linter.unusedVariables false
set_option linter.unusedSimpArgs false
open Go.RowKit

/- as equalS, at slices of int64 -/
set_option maxHeartbeats 1000000 in
set_option maxRecDepth 100000 in
theorem eqlInts_any (v u : Value) (l m : List Int) (w : World) (B : Nat) (hl : RdI w B v l) (hm : RdI w B u m) (hB : B ≤ w.heap.size) :
    Calls Try.prog 58 #[v, u] w fun x w' => x = .returned (.bool (decide (l = m))) ∧ Below w.heap.size w w' := by
  obtain ⟨A, n, c, rfl, hln, hl, gl⟩ := hl
  obtain ⟨A', n', c', rfl, hmn, hm, gm⟩ := hm
  by_cases hlen : n = n'
  · subst hlen
    go_enter Try.func58, Try.ntmps58
    go_wp2
    go_loopw [5, 13] (fun _ i wr => ∃ k : Nat, k ≤ n ∧ i = .int .i64 k ∧ Hid (decide (l = m) = decide (l.drop k = m.drop k)) ∧ Below w.heap.size w wr) (fun _ i _ => n - (intOf i).toNat)
    case atStart => exact ⟨0, Nat.zero_le _, rfl, rfl, Below.refl _ _⟩
    case round =>
      rename_i wr
      obtain ⟨k, hk, rfl, hd, hb⟩ := hrel
      by_cases hlt : k < n
      · obtain ⟨b, off, x, rfl, hbb, hlk, hc⟩ := gl k hlt
        obtain ⟨b', off', y, rfl, hbb', hmk, hc'⟩ := gm k hlt
        have e0 := fun X => wgrow_cell (x := X) ((hb.cell (p := ⟨b, off + k, none⟩) (Nat.lt_of_lt_of_le hbb hB)).trans hc)
        have e1 := fun X => wgrow_cell (x := X) ((hb.cell (p := ⟨b', off' + k, none⟩) (Nat.lt_of_lt_of_le hbb' hB)).trans hc')
        have HB := Lib.hid hb
        have Hl := Lib.hid hlk
        have Hm := Lib.hid hmk
        clear hc hc' hlk hmk hb gl gm
        go_wp2
        refine wp_region_grow (by kernel_rfl) (by kernel_rfl) ?_
        repeat (go_big_quiet_step (fail))
        refine wpQuiet_nil ?_
        intro w1 hb1
        have HB1 := HB.out.trans (hb1.mono HB.out.size)
        go_wp2
        · go_ret
          exact ⟨ret_bool (by rw [hd.out, drop_of_get Hl.out, drop_of_get Hm.out]; simp_all), HB1⟩
        · exact ⟨⟨k + 1, by omega, by go_num, by unfold Hid; rw [hd.out, drop_of_get Hl.out, drop_of_get Hm.out]; simp_all, HB1⟩, by simp [intOf]; omega⟩
      · go_wp2
        go_ret
        exact ⟨ret_bool (by rw [hd.out, List.drop_of_length_le (by have := hl.out; omega), List.drop_of_length_le (by have := hm.out; omega)]; simp), hb⟩
  · have hd1 : ((n : Int) != (n' : Int)) = true := by simp; omega
    go_enter Try.func58, Try.ntmps58
    go_wp2
    go_ret
    exact ⟨ret_bool (by symm; simp; rintro rfl; exact hlen (hl.out.symm.trans hm.out)), Below.refl _ _⟩
/- as equalS, at slices of int64 -/
set_option maxHeartbeats 1000000 in
set_option maxRecDepth 100000 in
theorem specSame_any (v u : Value) (l m : List Int) (w : World) (B : Nat) (hl : RdI w B v l) (hm : RdI w B u m) (hB : B ≤ w.heap.size) :
    Calls Try.prog 56 #[v, u] w fun x w' => x = .returned (.bool (decide (l = m))) ∧ Below w.heap.size w w' := by
  obtain ⟨A, n, c, rfl, hln, hl, gl⟩ := hl
  obtain ⟨A', n', c', rfl, hmn, hm, gm⟩ := hm
  by_cases hlen : n = n'
  · subst hlen
    go_enter Try.func56, Try.ntmps56
    go_wp2
    go_loopw [5] (fun  i wr => ∃ k : Nat, k ≤ n ∧ i = .int .i64 k ∧ Hid (decide (l = m) = decide (l.drop k = m.drop k)) ∧ Below w.heap.size w wr) (fun  i _ => n - (intOf i).toNat)
    case atStart => exact ⟨0, Nat.zero_le _, rfl, rfl, Below.refl _ _⟩
    case round =>
      rename_i wr
      obtain ⟨k, hk, rfl, hd, hb⟩ := hrel
      by_cases hlt : k < n
      · obtain ⟨b, off, x, rfl, hbb, hlk, hc⟩ := gl k hlt
        obtain ⟨b', off', y, rfl, hbb', hmk, hc'⟩ := gm k hlt
        have e0 := fun X => wgrow_cell (x := X) ((hb.cell (p := ⟨b, off + k, none⟩) (Nat.lt_of_lt_of_le hbb hB)).trans hc)
        have e1 := fun X => wgrow_cell (x := X) ((hb.cell (p := ⟨b', off' + k, none⟩) (Nat.lt_of_lt_of_le hbb' hB)).trans hc')
        have HB := Lib.hid hb
        have Hl := Lib.hid hlk
        have Hm := Lib.hid hmk
        clear hc hc' hlk hmk hb gl gm
        go_wp2
        refine wp_region_grow (by kernel_rfl) (by kernel_rfl) ?_
        repeat (go_big_quiet_step (fail))
        refine wpQuiet_nil ?_
        intro w1 hb1
        have HB1 := HB.out.trans (hb1.mono HB.out.size)
        go_wp2
        · go_ret
          exact ⟨ret_bool (by rw [hd.out, drop_of_get Hl.out, drop_of_get Hm.out]; simp_all), HB1⟩
        · exact ⟨⟨k + 1, by omega, by go_num, by unfold Hid; rw [hd.out, drop_of_get Hl.out, drop_of_get Hm.out]; simp_all, HB1⟩, by simp [intOf]; omega⟩
      · go_wp2
        go_ret
        exact ⟨ret_bool (by rw [hd.out, List.drop_of_length_le (by have := hl.out; omega), List.drop_of_length_le (by have := hm.out; omega)]; simp), hb⟩
  · have hd1 : ((n : Int) != (n' : Int)) = true := by simp; omega
    go_enter Try.func56, Try.ntmps56
    go_wp2
    go_ret
    exact ⟨ret_bool (by symm; simp; rintro rfl; exact hlen (hl.out.symm.trans hm.out)), Below.refl _ _⟩

/- a comparison of braids by value: implSameBraid theorem's name · impl.SameBraid function · eqlInts the words' comparison -/
set_option maxHeartbeats 1000000 in
set_option maxRecDepth 100000 in
theorem implSameBraid_any (v u : Value) (a b : Br) (w : World) (hl : RdBr w w.heap.size v a) (hm : RdBr w w.heap.size u b) :
    Calls Try.prog 42 #[v, u] w fun e w' => e = .returned (.bool (decide (a = b))) ∧ Below w.heap.size w w' := by
  obtain ⟨s, rfl, hs⟩ := hl
  obtain ⟨t, rfl, ht⟩ := hm
  obtain ⟨n, wd⟩ := a
  obtain ⟨m, we⟩ := b
  obtain ⟨A0, n0, c0, rfl⟩ := hs.shape
  obtain ⟨A1, n1, c1, rfl⟩ := ht.shape
  have HS := Lib.hid hs
  have HT := Lib.hid ht
  clear hs ht
  dsimp only at HS HT
  by_cases h : n = m
  · subst h
    have hd : decide ((⟨n, wd⟩ : Br) = ⟨n, we⟩) = decide (wd = we) := by simp
    rw [hd]
    clear hd
    go_enter Try.func42, Try.ntmps42
    go_wp2_with fail
    refine (eqlInts_any _ _ wd we _ _ (HS.out.up (((Below.refl _ _).alloc (Nat.le_refl _) _).alloc (by simp) _) (by simp; omega)) (HT.out.up (((Below.refl _ _).alloc (Nat.le_refl _) _).alloc (by simp) _) (by simp; omega)) (Nat.le_refl _)).mono ?_
    rintro e w1 ⟨rfl, hb⟩
    have HB := Lib.hid ((((Below.refl _ _).alloc (Nat.le_refl _) _).alloc (by simp) _).trans (hb.mono (by simp; omega)))
    clear hb
    go_wp2
    go_ret
    exact ⟨rfl, HB.out⟩
  · have hd : decide ((⟨n, wd⟩ : Br) = ⟨m, we⟩) = false := by simp [h]
    rw [hd]
    have h1 : (n == m) = false := by simpa using h
    have h2 : decide (n = m) = false := by simpa using h
    clear hd
    go_enter Try.func42, Try.ntmps42
    go_wp2
    go_ret
    exact ⟨rfl, ((Below.refl _ _).alloc (Nat.le_refl _) _).alloc (by simp) _⟩
/- a comparison of braids by value: specSameBraid theorem's name · spec.SameBraid function · specSame the words' comparison -/
set_option maxHeartbeats 1000000 in
set_option maxRecDepth 100000 in
theorem specSameBraid_any (v u : Value) (a b : Br) (w : World) (hl : RdBr w w.heap.size v a) (hm : RdBr w w.heap.size u b) :
    Calls Try.prog 37 #[v, u] w fun e w' => e = .returned (.bool (decide (a = b))) ∧ Below w.heap.size w w' := by
  obtain ⟨s, rfl, hs⟩ := hl
  obtain ⟨t, rfl, ht⟩ := hm
  obtain ⟨n, wd⟩ := a
  obtain ⟨m, we⟩ := b
  obtain ⟨A0, n0, c0, rfl⟩ := hs.shape
  obtain ⟨A1, n1, c1, rfl⟩ := ht.shape
  have HS := Lib.hid hs
  have HT := Lib.hid ht
  clear hs ht
  dsimp only at HS HT
  by_cases h : n = m
  · subst h
    have hd : decide ((⟨n, wd⟩ : Br) = ⟨n, we⟩) = decide (wd = we) := by simp
    rw [hd]
    clear hd
    go_enter Try.func37, Try.ntmps37
    go_wp2_with fail
    refine (specSame_any _ _ wd we _ _ (HS.out.up (((Below.refl _ _).alloc (Nat.le_refl _) _).alloc (by simp) _) (by simp; omega)) (HT.out.up (((Below.refl _ _).alloc (Nat.le_refl _) _).alloc (by simp) _) (by simp; omega)) (Nat.le_refl _)).mono ?_
    rintro e w1 ⟨rfl, hb⟩
    have HB := Lib.hid ((((Below.refl _ _).alloc (Nat.le_refl _) _).alloc (by simp) _).trans (hb.mono (by simp; omega)))
    clear hb
    go_wp2
    go_ret
    exact ⟨rfl, HB.out⟩
  · have hd : decide ((⟨n, wd⟩ : Br) = ⟨m, we⟩) = false := by simp [h]
    rw [hd]
    have h1 : (n == m) = false := by simpa using h
    have h2 : decide (n = m) = false := by simpa using h
    clear hd
    go_enter Try.func37, Try.ntmps37
    go_wp2
    go_ret
    exact ⟨rfl, ((Below.refl _ _).alloc (Nat.le_refl _) _).alloc (by simp) _⟩

set_option maxHeartbeats 1000000 in
set_option maxRecDepth 100000 in
theorem sameBlkF_any (v u : Value) (a b : Bk) (w : World) (hl : RdBkV w w.heap.size v a) (hm : RdBkV w w.heap.size u b) :
    Calls Try.prog 41 #[v, u] w fun e w' => e = .returned (.bool (decide (a = b))) ∧ Below w.heap.size w w' := by
  obtain ⟨s, t, rfl, hs, ht⟩ := hl
  obtain ⟨p, q, rfl, hp, hq⟩ := hm
  obtain ⟨A0, n0, c0, rfl⟩ := hs.shape
  obtain ⟨A1, n1, c1, rfl⟩ := ht.shape'
  obtain ⟨A2, n2, c2, rfl⟩ := hp.shape
  obtain ⟨A3, n3, c3, rfl⟩ := hq.shape'
  obtain ⟨ab, ae⟩ := a
  obtain ⟨bb, be⟩ := b
  have HS := Lib.hid hs
  have HT := Lib.hid ht
  have HP := Lib.hid hp
  have HQ := Lib.hid hq
  clear hs ht hp hq
  dsimp only at HS HT HP HQ
  have HB0 := Lib.hid (show Below w.heap.size w ((w.alloc (.cells #[.int .i64 ab.n, .slice A0 n0 c0, .slice A1 n1 c1] 66)).alloc (.cells #[.int .i64 bb.n, .slice A2 n2 c2, .slice A3 n3 c3] 66)) from ((Below.refl _ _).alloc (Nat.le_refl _) _).alloc (by simp) _)
  have hca : CellsAt ((w.alloc (.cells #[.int .i64 ab.n, .slice A0 n0 c0, .slice A1 n1 c1] 66)).alloc (.cells #[.int .i64 bb.n, .slice A2 n2 c2, .slice A3 n3 c3] 66)) w.heap.size 0 [.int .i64 ab.n, .slice A0 n0 c0, .slice A1 n1 c1] := by
    intro j u hu; rcases j with _ | _ | _ | j <;> simp at hu <;> subst hu <;> simp [go_sem]
  have hcb : CellsAt ((w.alloc (.cells #[.int .i64 ab.n, .slice A0 n0 c0, .slice A1 n1 c1] 66)).alloc (.cells #[.int .i64 bb.n, .slice A2 n2 c2, .slice A3 n3 c3] 66)) (w.heap.size + 1) 0 [.int .i64 bb.n, .slice A2 n2 c2, .slice A3 n3 c3] := by
    intro j u hu; rcases j with _ | _ | _ | j <;> simp at hu <;> subst hu <;> simp [go_sem]
  have HCA := Lib.hid hca
  have HCB := Lib.hid hcb
  clear hca hcb
  have HK := Lib.hid (implSameBraid_any _ _ ab bb _ ⟨_, rfl, HS.out.up HB0.out HB0.out.size⟩ ⟨_, rfl, HP.out.up HB0.out HB0.out.size⟩)
  by_cases h : ab = bb
  · have hd : decide ((⟨ab, ae⟩ : Bk) = ⟨bb, be⟩) = decide (ae = be) := by simp [h]
    rw [hd]
    rw [show decide (ab = bb) = true by simp [h]] at HK
    clear hd
    subst h
    cases hz : decide (ae = be)
    all_goals
      have HZ := Lib.hid hz
      clear hz
      go_enter Try.func41, Try.ntmps41
      go_wp2_with fail
      refine HK.out.mono ?_
      rintro e w1 ⟨rfl, hb⟩
      obtain ⟨y0, y1, y2⟩ := (HCA.out.below hb (by simp; try omega)).three
      obtain ⟨x0, x1, x2⟩ := (HCB.out.below hb (by simp; try omega)).three
      have HB := Lib.hid (HB0.out.trans (hb.mono HB0.out.size))
      clear hb
      go_wp2_with fail
      refine (eqlEvents_any _ _ ae be _ _ ((HT.out.below HB.out).more HB.out.size) ((HQ.out.below HB.out).more HB.out.size) (Nat.le_refl _)).mono ?_
      rintro e w2 ⟨rfl, hb⟩
      rw [HZ.out]
      have HB2 := Lib.hid (HB.out.trans (hb.mono HB.out.size))
      clear hb
      go_wp2
      go_ret
      exact ⟨rfl, HB2.out⟩
  · have hd : decide ((⟨ab, ae⟩ : Bk) = ⟨bb, be⟩) = false := by simp [h]
    rw [hd]
    rw [show decide (ab = bb) = false by simp [h]] at HK
    clear h hd
    go_enter Try.func41, Try.ntmps41
    go_wp2_with fail
    refine HK.out.mono ?_
    rintro e w1 ⟨rfl, hb⟩
    have HB := Lib.hid (HB0.out.trans (hb.mono HB0.out.size))
    clear hb
    go_wp2
    go_ret
    exact ⟨rfl, HB.out⟩

def RdBks (w : World) (B : Nat) (v : Value) (l : List Bk) : Prop := RdN RdBk 3 w B v l

set_option maxHeartbeats 2000000 in
set_option maxRecDepth 100000 in
theorem eqfBlk_any (v u : Value) (l m : List Bk) (w : World) (hl : RdBks w w.heap.size v l) (hm : RdBks w w.heap.size u m) :
    Calls Try.prog 40 #[v, u, .func (.func 41) #[] #[]] w fun x w' => x = .returned (.bool (decide (l = m))) ∧ Below w.heap.size w w' := by
  obtain ⟨A, n, c, rfl, hln, hl, gl⟩ := hl
  obtain ⟨A', n', c', rfl, hmn, hm, gm⟩ := hm
  by_cases hlen : n = n'
  · subst hlen
    go_enter Try.func40, Try.ntmps40
    go_wp2
    go_loopw [7, 17] (fun _ i wr => ∃ k : Nat, k ≤ n ∧ i = .int .i64 k ∧ Hid (decide (l = m) = decide (l.drop k = m.drop k)) ∧ Below w.heap.size w wr) (fun _ i _ => n - (intOf i).toNat)
    case atStart => exact ⟨0, Nat.zero_le _, rfl, rfl, Below.refl _ _⟩
    case round =>
      rename_i wr
      obtain ⟨k, hk, rfl, hd, hb⟩ := hrel
      by_cases hlt : k < n
      · obtain ⟨b, off, x, us, rfl, hbb, hlk, -, hc, s, t, rfl, hs, ht⟩ := gl k hlt
        obtain ⟨b', off', y, us', rfl, hbb', hmk, -, hc', p, q, rfl, hp, hq⟩ := gm k hlt
        obtain ⟨B0, n0, d0, rfl⟩ := hs.shape
        obtain ⟨B1, n1, d1, rfl⟩ := ht.shape'
        obtain ⟨B2, n2, d2, rfl⟩ := hp.shape
        obtain ⟨B3, n3, d3, rfl⟩ := hq.shape'
        obtain ⟨e0, e1, e2⟩ := (hc.below hb hbb).three
        obtain ⟨f0, f1, f2⟩ := (hc'.below hb hbb').three
        have HB := Lib.hid hb
        have Hl := Lib.hid hlk
        have Hm := Lib.hid hmk
        have hsz := hb.size
        have hne1 : b' ≠ wr.heap.size := by omega
        have hlt1 : b' < wr.heap.size := by omega
        have HX := Lib.hid (show RdBkV w w.heap.size _ x from ⟨_, _, rfl, hs, ht⟩)
        have HY := Lib.hid (show RdBkV w w.heap.size _ y from ⟨_, _, rfl, hp, hq⟩)
        clear hc hc' hlk hmk hb gl gm hs ht hp hq
        have HQ := Lib.hid (fun w2 (h : Below w.heap.size w w2) => sameBlkF_any _ _ x y w2 ((HX.out.below h).more h.size) ((HY.out.below h).more h.size))
        cases hxy : decide (x = y)
        all_goals
          have HXY := Lib.hid hxy
          clear hxy
          go_wp2_with fail
          refine (HQ.out _ ?_).mono ?_
          · exact (HB.out.alloc hsz _).alloc (by simp; omega) _
          rintro e w1 ⟨rfl, hb1⟩
          rw [HXY.out]
          have HB1 := Lib.hid (((HB.out.alloc hsz _).alloc (by simp; omega) _).trans (hb1.mono (by simp; omega)))
          clear hb1
          go_wp2
          first
          | (go_ret
             exact ⟨ret_bool (by rw [hd.out, drop_of_get Hl.out, drop_of_get Hm.out]; have := HXY.out; simp_all), HB1.out⟩)
          | exact ⟨⟨k + 1, by omega, by go_num, by unfold Hid; rw [hd.out, drop_of_get Hl.out, drop_of_get Hm.out]; have := HXY.out; simp_all, HB1.out⟩, by simp [intOf]; omega⟩
      · have HB := Lib.hid hb
        clear hb gl gm
        go_wp2
        go_ret
        exact ⟨ret_bool (by rw [hd.out, List.drop_of_length_le (by have := hl.out; omega), List.drop_of_length_le (by have := hm.out; omega)]; simp), HB.out⟩
  · have hd1 : ((n : Int) != (n' : Int)) = true := by simp; omega
    go_enter Try.func40, Try.ntmps40
    go_wp2
    go_ret
    exact ⟨ret_bool (by symm; simp; rintro rfl; exact hlen (hl.out.symm.trans hm.out)), Below.refl _ _⟩

end Go.Proofs.Ytjhhbdehgklneaa
