/-
  Texts joined: Sw3, Sw4.
-/
import Derived.Test.YtolcgopfbbmjgaaPk4
/-
  The library's stable sort at operations: symMerge where one half is one element.
-/
namespace Go.Proofs.Ytolcgopfbbmjgaa
set_option linter.unusedVariables false
set_option linter.unusedSimpArgs false
open Go.RowKit Go.Lib Go.Sort

/-- What is asked of the comparing function. -/
structure CmpA (w : World) (blk off size : Nat) (g : Nat) (cb : Array Value) (cf : Opr → Opr → Int) (key : Opr → Int) : Prop where
  lays : CmpLays Try.prog g cb Opr.cells 8 cf blk off size w
  enters : ∀ args w, (callFunc g args).run Try.prog w = .ok (.enter g args) w
  less : ∀ x y, cf x y < 0 ↔ key x < key y
theorem at_part {α : Type} [Inhabited α] {d : Array α} {A R Y : List α} (h : d.toList = A ++ (R ++ Y)) {t i : Nat} (ht : t < R.length) (he : i = A.length + t) : R[t]? = some d[i]! := by
  have hl := congrArg List.length h
  simp at hl
  have e : d[i]! = d.toList[i]'(by simp; omega) := by rw [getElem!_pos d i (by omega)]; simp
  rw [e, ← List.getElem?_eq_getElem, h, List.getElem?_append_right (by omega), List.getElem?_append_left (by omega)]
  congr 1; omega
/-- What a call of symMerge does. -/
def SymDid (w : World) (blk off : Nat) (d0 : Array Opr) (key : Opr → Int) (X L R Y : List Opr) (e : Ending) (w' : World) : Prop :=
  e = .returned (.tuple #[]) ∧ ∃ m' d' os' M, w' = SW w blk off m' d' os' ∧ d'.size = d0.size ∧ d'.toList = X ++ (M ++ Y) ∧ Stb key (L ++ R) M

set_option maxHeartbeats 8000000 in
set_option maxRecDepth 100000 in
theorem symA_any {w : World} {blk off cap : Nat} {d0 : Array Opr} (H : SwR w blk off d0) {g : Nat} {cb : Array Value} {cf : Opr → Opr → Int} {key : Opr → Int} (C : CmpA w blk off d0.size g cb cf key) (m0 : Nat) (d : Array Opr) (os : Array Obj) (hd : d.size = d0.size) (X : List Opr) (x : Opr) (R Y : List Opr) (h : d.toList = X ++ ([x] ++ (R ++ Y))) (hr : 0 < R.length) (sR : Srt key R) (a m b N : Nat) (ha : a = X.length) (hm : m = a + 1) (hb : b = m + R.length) (hN : N = d.size) :
    Calls Try.prog 79 #[.slice (some ⟨blk, off, none⟩) N cap, .int .i64 (a : Int), .int .i64 (m : Int), .int .i64 (b : Int), .func (.func g) #[] cb] (SW w blk off m0 d os) (SymDid w blk off d0 key X [x] R Y) := by
  have mixed : Try.prog.follows Departure.mixedOrders = true := by kernel_rfl
  have HH := Lib.hid H
  have HC := Lib.hid C
  have eg := C.enters
  have HD := Lib.hid h
  have HR := Lib.hid hr
  have HSR := Lib.hid sR
  have HD0 := Lib.hid hd
  have HN := Lib.hid hN
  have HA := Lib.hid ha
  have HM := Lib.hid hm
  have HB := Lib.hid hb
  have hbig := H.sz
  have hNb : N ≤ 2000 := by omega
  have hlen : X.length + (1 + (R.length + Y.length)) = N := by
    have := congrArg List.length h
    simp at this
    omega
  have hbn : b ≤ N := by omega
  have hmb : m < b := by omega
  have ham : (a : Int) + 1 = (m : Int) := by omega
  have hw0 : IntKind.i64.wrap ((m : Int) - (a : Int)) = 1 := by rw [IntWalk.i64_in _ (by omega)]; omega
  clear H C h hr sR ha hm hb hN hd hlen
  go_enter Try.func79, Try.ntmps79
  go_wp2
  go_loopw [10, 11] (fun v10 v11 wr => ∃ (i j m1 : Nat) (o1 : Array Obj), wr = SW w blk off m1 d o1 ∧ v10 = .int .i64 (i : Int) ∧ v11 = .int .i64 (j : Int) ∧ m ≤ i ∧ i ≤ j ∧ j ≤ b ∧ Hid ((i = m ∨ ∀ y, R[i - m - 1]? = some y → key y < key x) ∧ (j = b ∨ ∀ y, R[j - m]? = some y → key x ≤ key y))) (fun v10 v11 _ => (intOf v11).toNat - (intOf v10).toNat)
  case atStart => exact ⟨m, b, m0, os, rfl, rfl, rfl, Nat.le_refl _, by omega, Nat.le_refl _, ⟨.inl rfl, .inl rfl⟩⟩
  case round =>
    obtain ⟨i, j, m1, o1, hw1, rfl, rfl, hmi, hij, hjb, HI⟩ := hrel
    by_cases hlt : i < j
    · obtain ⟨p, hp⟩ : ∃ p : Nat, p = (i + j) / 2 := ⟨_, rfl⟩
      have hmid : ((i : Int) + (j : Int)) / 2 = (p : Int) := by omega
      obtain ⟨q, hq⟩ : ∃ q : Nat, q = a := ⟨_, rfl⟩
      have hpb : m ≤ p ∧ p < b ∧ i ≤ p ∧ p < j := by omega
      obtain ⟨d1, hd1⟩ : ∃ d1 : Array Opr, d1 = d := ⟨_, rfl⟩
      have hs1 := Lib.hid (show d1.size = d0.size by rw [hd1]; exact HD0.out)
      have hsN : d1.size = N := by rw [hd1]; exact HN.out.symm
      have hpd : p < d1.size := by omega
      have hqd : q < d1.size := by omega
      have hpN : (p : Int) < (N : Int) := by omega
      have hqN : (a : Int) < (N : Int) := by omega
      have HPx := Lib.hid (show R[p - m]? = some d1[p]! from at_part (A := X ++ [x]) (Y := Y) (by rw [hd1, HD.out]; simp) (by have := HB.out; omega) (by have := HA.out; have := HM.out; simp; omega))
      have HQx := Lib.hid (show d1[q]! = x by
        have := at_part (A := X) (R := [x]) (Y := R ++ Y) (d := d1) (t := 0) (i := q) (by rw [hd1, HD.out]) (by simp) (by have := HA.out; omega)
        simp at this; exact this.symm)
      rw [← hd1] at hw1
      have hcls : ∀ n' os', grow ((SW w blk off m1 d1 o1).drewN n') os' = SW w blk off (m1 + n') d1 (o1 ++ os') := fun n' os' => sortWorldK_grown_c Opr.cells 8 w blk off m1 n' d1 o1 os'
      have hcp : ∀ n' os', CellsAt (grow ((SW w blk off m1 d1 o1).drewN n') os') blk (off + p * 8) d1[p]!.cells := fun n' os' => by rw [hcls]; exact HH.out.cells _ d1 _ hs1.out hpd
      have hcq : ∀ n' os', CellsAt (grow ((SW w blk off m1 d1 o1).drewN n') os') blk (off + q * 8) d1[q]!.cells := fun n' os' => by rw [hcls]; exact HH.out.cells _ d1 _ hs1.out hqd
      have hcg : ∀ n' os', Calls Try.prog g (#[.agg d1[p]!.cells.toArray, .agg d1[q]!.cells.toArray] ++ cb) (grow ((SW w blk off m1 d1 o1).drewN n') os') fun e w' => e = .returned (.int .i64 (cf d1[p]! d1[q]!)) ∧ ∃ q' os'', w' = grow ((grow ((SW w blk off m1 d1 o1).drewN n') os').drewN q') os'' := fun n' os' => by rw [hcls]; exact HC.out.lays _ _ d1 hs1.out _ _
      have HK := Lib.hid (HC.out.less d1[p]! d1[q]!)
      generalize hP : d1[p]! = P at *
      generalize hQ : d1[q]! = Q at *
      rw [← hw1] at hcls hcp hcq hcg
      have CLS := Lib.hid hcls
      have x0 := fun n' os' => (hcp n' os').eight.1
      have x1 := fun n' os' => (hcp n' os').eight.2.1
      have x2 := fun n' os' => (hcp n' os').eight.2.2.1
      have x3 := fun n' os' => (hcp n' os').eight.2.2.2.1
      have x4 := fun n' os' => (hcp n' os').eight.2.2.2.2.1
      have x5 := fun n' os' => (hcp n' os').eight.2.2.2.2.2.1
      have x6 := fun n' os' => (hcp n' os').eight.2.2.2.2.2.2.1
      have x7 := fun n' os' => (hcp n' os').eight.2.2.2.2.2.2.2
      have y0 := fun n' os' => (hcq n' os').eight.1
      have y1 := fun n' os' => (hcq n' os').eight.2.1
      have y2 := fun n' os' => (hcq n' os').eight.2.2.1
      have y3 := fun n' os' => (hcq n' os').eight.2.2.2.1
      have y4 := fun n' os' => (hcq n' os').eight.2.2.2.2.1
      have y5 := fun n' os' => (hcq n' os').eight.2.2.2.2.2.1
      have y6 := fun n' os' => (hcq n' os').eight.2.2.2.2.2.2.1
      have y7 := fun n' os' => (hcq n' os').eight.2.2.2.2.2.2.2
      have HW1 := Lib.hid hw1
      clear hw1 hcls hcp hcq
      subst hq
      have HE := Lib.hid hd1
      clear hd1 hs1 hsN hpd hqd hp hP hQ
      by_cases hlv : cf P Q < 0
      · have HNX : Hid ((p + 1 = m ∨ ∀ y, R[p + 1 - m - 1]? = some y → key y < key x) ∧ (j = b ∨ ∀ y, R[j - m]? = some y → key x ≤ key y)) := ⟨.inr (fun y hy => by
            rw [show p + 1 - m - 1 = p - m by omega, HPx.out] at hy
            injection hy with hy
            rw [← hy, ← HQx.out]; exact HK.out.1 hlv), HI.out.2⟩
        go_wp2_with fail
        go_quiet_grown (first | (go_at_fn g; refine Calls.grown_of (hcg _ _)))
        go_wp2
        refine ⟨⟨p + 1, j, m1 + nq, o1 ++ osq, ?_, by go_num, rfl, by omega, by omega, hjb, HNX⟩, ?_⟩
        · rw [CLS.out, HE.out]
        · simp [intOf]; omega
      · have HNX : Hid ((i = m ∨ ∀ y, R[i - m - 1]? = some y → key y < key x) ∧ (p = b ∨ ∀ y, R[p - m]? = some y → key x ≤ key y)) := ⟨HI.out.1, .inr (fun y hy => by
            rw [HPx.out] at hy
            injection hy with hy
            rw [← hy, ← HQx.out]
            have := mt HK.out.2 hlv
            omega)⟩
        go_wp2_with fail
        go_quiet_grown (first | (go_at_fn g; refine Calls.grown_of (hcg _ _)))
        go_wp2
        refine ⟨⟨i, p, m1 + nq, o1 ++ osq, ?_, rfl, rfl, hmi, by omega, by omega, HNX⟩, ?_⟩
        · rw [CLS.out, HE.out]
        · simp [intOf]; omega
    · obtain rfl : i = j := by omega
      have hne : ¬ (i : Int) < (i : Int) := by omega
      obtain ⟨i', hi'⟩ : ∃ i' : Nat, i' + 1 = i := ⟨i - 1, by omega⟩
      have hwi : IntKind.i64.wrap ((i : Int) - 1) = (i' : Int) := by rw [IntWalk.i64_in _ (by omega)]; omega
      have HFIN := Lib.hid (show Stb key ([x] ++ R) (R.take (i' - a) ++ ([x] ++ R.drop (i' - a))) from one_left HSR.out (i' - a) (by have := HB.out; have := HM.out; omega)
        (by rcases HI.out.1 with h | h
            · exact .inl (by have := HM.out; omega)
            · exact .inr (fun y hy => h y (by rw [show i - m - 1 = i' - a - 1 by have := HM.out; omega]; exact hy)))
        (by rcases HI.out.2 with h | h
            · exact .inl (by have := HM.out; have := HB.out; omega)
            · exact .inr (fun y hy => h y (by rw [show i - m = i' - a by have := HM.out; omega]; exact hy))))
      clear HI
      go_wp2
      go_loopw [13] (fun v13 wr2 => ∃ (k m1 : Nat) (d1 : Array Opr) (o1 : Array Obj), wr2 = SW w blk off m1 d1 o1 ∧ v13 = .int .i64 (k : Int) ∧ a ≤ k ∧ k ≤ i' ∧ Hid (d1.size = d0.size) ∧ Hid (d1.toList = X ++ (R.take (k - a) ++ (x :: (R.drop (k - a) ++ Y))))) (fun v13 _ => i' - (intOf v13).toNat)
      case atStart => exact ⟨a, m1, d, o1, by first | rfl | exact hw1, rfl, Nat.le_refl _, by omega, HD0.out, by unfold Hid; rw [HD.out]; simp⟩
      case round =>
        clear hw1
        obtain ⟨p, m1, d1, o1, hw1, rfl, hak, hki, hs1, HL⟩ := hrel
        by_cases hlt2 : p < i'
        · obtain ⟨q, hq⟩ : ∃ q : Nat, q = p + 1 := ⟨_, rfl⟩
          have hwq : IntKind.i64.wrap ((p : Int) + 1) = (q : Int) := by rw [IntWalk.i64_in _ (by omega)]; omega
          have hsN : d1.size = N := by rw [hs1.out, ← HD0.out]; exact HN.out.symm
          have hpd : p < d1.size := by omega
          have hqd : q < d1.size := by omega
          have hpN : (p : Int) < (N : Int) := by omega
          have hqN : (q : Int) < (N : Int) := by omega
          have hpq : p * 8 + 8 ≤ q * 8 := by omega
          have HNX := Lib.hid (show (swp d1 p q).toList = X ++ (R.take (q - a) ++ (x :: (R.drop (q - a) ++ Y))) by
            have h9 := right_step HL.out (by have := HB.out; have := HM.out; omega)
            rw [show q - a = p - a + 1 by omega, show p = X.length + (p - a) by have := HA.out; omega, show q = X.length + (p - a) + 1 by have := HA.out; omega]
            rw [show X.length + (p - a) - a = p - a by have := HA.out; omega]
            exact h9)
          have hcp := HH.out.cells m1 d1 o1 hs1.out hpd
          have hcq := HH.out.cells m1 d1 o1 hs1.out hqd
          have fp := fun c (hc : c < 8) => HH.out.frozen m1 d1 o1 hs1.out hpd hc
          have fq := fun c (hc : c < 8) => HH.out.frozen m1 d1 o1 hs1.out hqd hc
          have HSWP := Lib.hid (sortWorldK_swp_c Opr.cells 8 w blk off Opr.len m1 d1 o1 HH.out.lt p q hpd hqd)
          have HSZ := Lib.hid (show (swp d1 p q).size = d0.size by rw [size_swp]; exact hs1.out)
          generalize hP : d1[p]! = P at *
          generalize hQ : d1[q]! = Q at *
          obtain ⟨x0, x1, x2, x3, x4, x5, x6, x7⟩ := hcp.eight
          obtain ⟨y0, y1, y2, y3, y4, y5, y6, y7⟩ := hcq.eight
          have f0 := fp 0 (by omega)
          have f1 := fp 1 (by omega)
          have f2 := fp 2 (by omega)
          have f3 := fp 3 (by omega)
          have f4 := fp 4 (by omega)
          have f5 := fp 5 (by omega)
          have f6 := fp 6 (by omega)
          have f7 := fp 7 (by omega)
          have g0 := fq 0 (by omega)
          have g1 := fq 1 (by omega)
          have g2 := fq 2 (by omega)
          have g3 := fq 3 (by omega)
          have g4 := fq 4 (by omega)
          have g5 := fq 5 (by omega)
          have g6 := fq 6 (by omega)
          have g7 := fq 7 (by omega)
          rw [Nat.add_zero] at f0 g0
          have HPQ := Lib.hid hpq
          clear hcp hcq fp fq hP hQ
          rw [← hw1] at x0 x1 x2 x3 x4 x5 x6 x7 y0 y1 y2 y3 y4 y5 y6 y7 f0 f1 f2 f3 f4 f5 f6 f7 g0 g1 g2 g3 g4 g5 g6 g7
          have HW1 := Lib.hid hw1
          clear hw1
          have HQ1 := Lib.hid hq
          clear hs1 hsN hpd hqd hq
          go_wp2_with fail
          have hrel8 : ∀ c : Nat, c < 8 → ∀ c' : Nat, c' < 8 → off + p * 8 + c ≠ off + q * 8 + c' := fun c _ c' _ => by have := HPQ.out; omega
          go_big_region_o
          all_goals go_wp2
          have hq1 := HQ1.out
          refine ⟨⟨q, m1 + 1, swp d1 p q, o1, ?_, by go_num, by omega, by omega, HSZ.out, HNX.out⟩, ?_⟩
          · rw [set8_cells, set8_cells]
            have := HSWP.out
            have hw := HW1.out
            rw [show sortWorldK Opr.cells 8 w blk off m1 d1 o1 = wr from hw.symm] at this
            refine Eq.trans ?_ this
            rw [drew_setCells_s, drew_setCells_s]
          · simp [intOf]
            omega
        · obtain rfl : p = i' := by omega
          have hlz : ¬ (p : Int) < (p : Int) := by omega
          go_wp2
          first | go_end0 | refine bodyPost_ret (results_none rfl _ _ _) rfl ?_
          exact ⟨rfl, m1, d1, o1, _, by first | rfl | exact hw1, hs1.out, by rw [HL.out]; simp, HFIN.out⟩

end Go.Proofs.Ytolcgopfbbmjgaa

/-
  The library's stable sort at operations: symMerge where the right half is one element.
-/
namespace Go.Proofs.Ytolcgopfbbmjgaa
set_option linter.unusedVariables false
set_option linter.unusedSimpArgs false
open Go.RowKit Go.Lib Go.Sort

set_option maxHeartbeats 8000000 in
set_option maxRecDepth 100000 in
theorem symB_any {w : World} {blk off cap : Nat} {d0 : Array Opr} (H : SwR w blk off d0) {g : Nat} {cb : Array Value} {cf : Opr → Opr → Int} {key : Opr → Int} (C : CmpA w blk off d0.size g cb cf key) (m0 : Nat) (d : Array Opr) (os : Array Obj) (hd : d.size = d0.size) (X L : List Opr) (y : Opr) (Y : List Opr) (h : d.toList = X ++ (L ++ ([y] ++ Y))) (hr : 1 < L.length) (sL : Srt key L) (a m b N : Nat) (ha : a = X.length) (hm : m = a + L.length) (hb : b = m + 1) (hN : N = d.size) :
    Calls Try.prog 79 #[.slice (some ⟨blk, off, none⟩) N cap, .int .i64 (a : Int), .int .i64 (m : Int), .int .i64 (b : Int), .func (.func g) #[] cb] (SW w blk off m0 d os) (SymDid w blk off d0 key X L [y] Y) := by
  have mixed : Try.prog.follows Departure.mixedOrders = true := by kernel_rfl
  have HH := Lib.hid H
  have HC := Lib.hid C
  have eg := C.enters
  have HD := Lib.hid h
  have HSL := Lib.hid sL
  have HD0 := Lib.hid hd
  have HN := Lib.hid hN
  have HA := Lib.hid ha
  have HM := Lib.hid hm
  have HB := Lib.hid hb
  have hbig := H.sz
  have hNb : N ≤ 2000 := by omega
  have hlen : X.length + (L.length + (1 + Y.length)) = N := by
    have := congrArg List.length h
    simp at this
    omega
  have hbn : b ≤ N := by omega
  have ham2 : a + 1 < m := by omega
  have hbm : (m : Int) + 1 = (b : Int) := by omega
  obtain ⟨n1, hn1⟩ : ∃ n1 : Nat, n1 = m - a := ⟨_, rfl⟩
  have hw0 : IntKind.i64.wrap ((m : Int) - (a : Int)) = (n1 : Int) := by rw [IntWalk.i64_in _ (by omega)]; omega
  have hn12 : ((n1 : Int) == 1) = false := by rw [beq_eq_false_iff_ne]; omega
  have hw1 : IntKind.i64.wrap ((b : Int) - (m : Int)) = 1 := by rw [IntWalk.i64_in _ (by omega)]; omega
  clear H C h hr sL ha hm hb hN hd hlen hn1
  go_enter Try.func79, Try.ntmps79
  go_wp2
  clear hw1
  go_loopw [14, 15] (fun v10 v11 wr => ∃ (i j m1 : Nat) (o1 : Array Obj), wr = SW w blk off m1 d o1 ∧ v10 = .int .i64 (i : Int) ∧ v11 = .int .i64 (j : Int) ∧ a ≤ i ∧ i ≤ j ∧ j ≤ m ∧ Hid ((i = a ∨ ∀ x, L[i - a - 1]? = some x → key x ≤ key y) ∧ (j = m ∨ ∀ x, L[j - a]? = some x → key y < key x))) (fun v10 v11 _ => (intOf v11).toNat - (intOf v10).toNat)
  case atStart => exact ⟨a, m, m0, os, rfl, rfl, rfl, Nat.le_refl _, by omega, Nat.le_refl _, ⟨.inl rfl, .inl rfl⟩⟩
  case round =>
    obtain ⟨i, j, m1, o1, hw1, rfl, rfl, hmi, hij, hjb, HI⟩ := hrel
    by_cases hlt : i < j
    · obtain ⟨q, hq⟩ : ∃ q : Nat, q = (i + j) / 2 := ⟨_, rfl⟩
      have hmid : ((i : Int) + (j : Int)) / 2 = (q : Int) := by omega
      obtain ⟨p, hp⟩ : ∃ p : Nat, p = m := ⟨_, rfl⟩
      have hpb : a ≤ q ∧ q < m ∧ i ≤ q ∧ q < j := by omega
      obtain ⟨d1, hd1⟩ : ∃ d1 : Array Opr, d1 = d := ⟨_, rfl⟩
      have hs1 := Lib.hid (show d1.size = d0.size by rw [hd1]; exact HD0.out)
      have hsN : d1.size = N := by rw [hd1]; exact HN.out.symm
      have hpd : p < d1.size := by omega
      have hqd : q < d1.size := by omega
      have hpN : (m : Int) < (N : Int) := by omega
      have hqN : (q : Int) < (N : Int) := by omega
      have HQx := Lib.hid (show L[q - a]? = some d1[q]! from at_part (A := X) (Y := [y] ++ Y) (by rw [hd1, HD.out]) (by have := HM.out; omega) (by have := HA.out; omega))
      have HPx := Lib.hid (show d1[p]! = y by
        have := at_part (A := X ++ L) (R := [y]) (Y := Y) (d := d1) (t := 0) (i := p) (by rw [hd1, HD.out]; simp) (by simp) (by have := HA.out; have := HM.out; simp; omega)
        simp at this; exact this.symm)
      rw [← hd1] at hw1
      have hcls : ∀ n' os', grow ((SW w blk off m1 d1 o1).drewN n') os' = SW w blk off (m1 + n') d1 (o1 ++ os') := fun n' os' => sortWorldK_grown_c Opr.cells 8 w blk off m1 n' d1 o1 os'
      have hcp : ∀ n' os', CellsAt (grow ((SW w blk off m1 d1 o1).drewN n') os') blk (off + p * 8) d1[p]!.cells := fun n' os' => by rw [hcls]; exact HH.out.cells _ d1 _ hs1.out hpd
      have hcq : ∀ n' os', CellsAt (grow ((SW w blk off m1 d1 o1).drewN n') os') blk (off + q * 8) d1[q]!.cells := fun n' os' => by rw [hcls]; exact HH.out.cells _ d1 _ hs1.out hqd
      have hcg : ∀ n' os', Calls Try.prog g (#[.agg d1[p]!.cells.toArray, .agg d1[q]!.cells.toArray] ++ cb) (grow ((SW w blk off m1 d1 o1).drewN n') os') fun e w' => e = .returned (.int .i64 (cf d1[p]! d1[q]!)) ∧ ∃ q' os'', w' = grow ((grow ((SW w blk off m1 d1 o1).drewN n') os').drewN q') os'' := fun n' os' => by rw [hcls]; exact HC.out.lays _ _ d1 hs1.out _ _
      have HK := Lib.hid (HC.out.less d1[p]! d1[q]!)
      generalize hP : d1[p]! = P at *
      generalize hQ : d1[q]! = Q at *
      rw [← hw1] at hcls hcp hcq hcg
      have CLS := Lib.hid hcls
      have x0 := fun n' os' => (hcp n' os').eight.1
      have x1 := fun n' os' => (hcp n' os').eight.2.1
      have x2 := fun n' os' => (hcp n' os').eight.2.2.1
      have x3 := fun n' os' => (hcp n' os').eight.2.2.2.1
      have x4 := fun n' os' => (hcp n' os').eight.2.2.2.2.1
      have x5 := fun n' os' => (hcp n' os').eight.2.2.2.2.2.1
      have x6 := fun n' os' => (hcp n' os').eight.2.2.2.2.2.2.1
      have x7 := fun n' os' => (hcp n' os').eight.2.2.2.2.2.2.2
      have y0 := fun n' os' => (hcq n' os').eight.1
      have y1 := fun n' os' => (hcq n' os').eight.2.1
      have y2 := fun n' os' => (hcq n' os').eight.2.2.1
      have y3 := fun n' os' => (hcq n' os').eight.2.2.2.1
      have y4 := fun n' os' => (hcq n' os').eight.2.2.2.2.1
      have y5 := fun n' os' => (hcq n' os').eight.2.2.2.2.2.1
      have y6 := fun n' os' => (hcq n' os').eight.2.2.2.2.2.2.1
      have y7 := fun n' os' => (hcq n' os').eight.2.2.2.2.2.2.2
      have HW1 := Lib.hid hw1
      clear hw1 hcls hcp hcq
      subst hp
      have HE := Lib.hid hd1
      clear hd1 hs1 hsN hpd hqd hq hP hQ
      by_cases hlv : cf P Q < 0
      · have HNX : Hid ((i = a ∨ ∀ x, L[i - a - 1]? = some x → key x ≤ key y) ∧ (q = p ∨ ∀ x, L[q - a]? = some x → key y < key x)) := ⟨HI.out.1, .inr (fun x hx => by
            rw [HQx.out] at hx
            injection hx with hx
            rw [← hx, ← HPx.out]; exact HK.out.1 hlv)⟩
        go_wp2_with fail
        go_quiet_grown (first | (go_at_fn g; refine Calls.grown_of (hcg _ _)))
        go_wp2
        refine ⟨⟨i, q, m1 + nq, o1 ++ osq, ?_, rfl, rfl, hmi, by omega, by omega, HNX⟩, ?_⟩
        · rw [CLS.out, HE.out]
        · simp [intOf]; omega
      · have HNX : Hid ((q + 1 = a ∨ ∀ x, L[q + 1 - a - 1]? = some x → key x ≤ key y) ∧ (j = p ∨ ∀ x, L[j - a]? = some x → key y < key x)) := ⟨.inr (fun x hx => by
            rw [show q + 1 - a - 1 = q - a by omega, HQx.out] at hx
            injection hx with hx
            rw [← hx, ← HPx.out]
            have := mt HK.out.2 hlv
            omega), HI.out.2⟩
        have hge : 0 ≤ cf P Q := by omega
        go_wp2_with fail
        go_quiet_grown (first | (go_at_fn g; refine Calls.grown_of (hcg _ _)))
        go_wp2
        all_goals try (rename_i hcnd; rw [show decide (cf P Q < 0) = false from decide_eq_false (by omega)] at hcnd; cases hcnd; done)
        refine ⟨⟨q + 1, j, m1 + nq, o1 ++ osq, ?_, by go_num, rfl, by omega, by omega, hjb, HNX⟩, ?_⟩
        · rw [CLS.out, HE.out]
        · simp [intOf]; omega
    · obtain rfl : i = j := by omega
      have hne : ¬ (i : Int) < (i : Int) := by omega
      have HFIN := Lib.hid (show Stb key (L ++ [y]) (L.take (i - a) ++ ([y] ++ L.drop (i - a))) from one_right HSL.out (i - a) (by have := HM.out; omega)
        (by rcases HI.out.1 with h | h
            · exact .inl (by omega)
            · exact .inr (fun x hx => h x (by rw [show i - a - 1 = i - a - 1 from rfl]; exact hx)))
        (by rcases HI.out.2 with h | h
            · exact .inl (by have := HM.out; omega)
            · exact .inr (fun x hx => h x hx)))
      clear HI
      go_wp2
      go_loopw [17] (fun v13 wr2 => ∃ (k m1 : Nat) (d1 : Array Opr) (o1 : Array Obj), wr2 = SW w blk off m1 d1 o1 ∧ v13 = .int .i64 (k : Int) ∧ i ≤ k ∧ k ≤ m ∧ Hid (d1.size = d0.size) ∧ Hid (d1.toList = X ++ (L.take (k - a) ++ (y :: (L.drop (k - a) ++ Y))))) (fun v13 _ => (intOf v13).toNat - i)
      case atStart => exact ⟨m, m1, d, o1, by first | rfl | exact hw1, rfl, by omega, Nat.le_refl _, HD0.out, by unfold Hid; rw [HD.out, List.take_of_length_le (by have := HM.out; omega), List.drop_of_length_le (by have := HM.out; omega)]; simp⟩
      case round =>
        clear hw1
        obtain ⟨p, m1, d1, o1, hw1, rfl, hak, hki, hs1, HL⟩ := hrel
        by_cases hlt2 : i < p
        · obtain ⟨q, hq⟩ : ∃ q : Nat, q = p - 1 := ⟨_, rfl⟩
          have hwq : IntKind.i64.wrap ((p : Int) - 1) = (q : Int) := by rw [IntWalk.i64_in _ (by omega)]; omega
          have hgz : (i : Int) < (p : Int) := by omega
          have hsN : d1.size = N := by rw [hs1.out, ← HD0.out]; exact HN.out.symm
          have hpd : p < d1.size := by omega
          have hqd : q < d1.size := by omega
          have hpN : (p : Int) < (N : Int) := by omega
          have hqN : (q : Int) < (N : Int) := by omega
          have hpq : q * 8 + 8 ≤ p * 8 := by omega
          have HNX := Lib.hid (show (swp d1 p q).toList = X ++ (L.take (q - a) ++ (y :: (L.drop (q - a) ++ Y))) by
            have h8 : d1.toList = X ++ (L.take (q - a + 1) ++ (y :: (L.drop (q - a + 1) ++ Y))) := by rw [show q - a + 1 = p - a by omega]; exact HL.out
            have h9 := left_step (t := q - a) h8 (by have := HM.out; omega)
            rw [show X.length + (q - a) + 1 = p by have := HA.out; omega, show X.length + (q - a) = q by have := HA.out; omega] at h9
            exact h9)
          have hcp := HH.out.cells m1 d1 o1 hs1.out hpd
          have hcq := HH.out.cells m1 d1 o1 hs1.out hqd
          have fp := fun c (hc : c < 8) => HH.out.frozen m1 d1 o1 hs1.out hpd hc
          have fq := fun c (hc : c < 8) => HH.out.frozen m1 d1 o1 hs1.out hqd hc
          have HSWP := Lib.hid (sortWorldK_swp_c Opr.cells 8 w blk off Opr.len m1 d1 o1 HH.out.lt p q hpd hqd)
          have HSZ := Lib.hid (show (swp d1 p q).size = d0.size by rw [size_swp]; exact hs1.out)
          generalize hP : d1[p]! = P at *
          generalize hQ : d1[q]! = Q at *
          obtain ⟨x0, x1, x2, x3, x4, x5, x6, x7⟩ := hcp.eight
          obtain ⟨y0, y1, y2, y3, y4, y5, y6, y7⟩ := hcq.eight
          have f0 := fp 0 (by omega)
          have f1 := fp 1 (by omega)
          have f2 := fp 2 (by omega)
          have f3 := fp 3 (by omega)
          have f4 := fp 4 (by omega)
          have f5 := fp 5 (by omega)
          have f6 := fp 6 (by omega)
          have f7 := fp 7 (by omega)
          have g0 := fq 0 (by omega)
          have g1 := fq 1 (by omega)
          have g2 := fq 2 (by omega)
          have g3 := fq 3 (by omega)
          have g4 := fq 4 (by omega)
          have g5 := fq 5 (by omega)
          have g6 := fq 6 (by omega)
          have g7 := fq 7 (by omega)
          rw [Nat.add_zero] at f0 g0
          have HPQ := Lib.hid hpq
          clear hcp hcq fp fq hP hQ
          rw [← hw1] at x0 x1 x2 x3 x4 x5 x6 x7 y0 y1 y2 y3 y4 y5 y6 y7 f0 f1 f2 f3 f4 f5 f6 f7 g0 g1 g2 g3 g4 g5 g6 g7
          have HW1 := Lib.hid hw1
          clear hw1
          have HQ1 := Lib.hid hq
          clear hs1 hsN hpd hqd hq
          go_wp2_with fail
          have hrel8 : ∀ c : Nat, c < 8 → ∀ c' : Nat, c' < 8 → off + p * 8 + c ≠ off + q * 8 + c' := fun c _ c' _ => by have := HPQ.out; omega
          go_big_region_o
          all_goals go_wp2
          have hq1 := HQ1.out
          refine ⟨⟨q, m1 + 1, swp d1 p q, o1, ?_, by go_num, by omega, by omega, HSZ.out, HNX.out⟩, ?_⟩
          · rw [set8_cells, set8_cells]
            have := HSWP.out
            have hw := HW1.out
            rw [show sortWorldK Opr.cells 8 w blk off m1 d1 o1 = wr from hw.symm] at this
            refine Eq.trans ?_ this
            rw [drew_setCells_s, drew_setCells_s]
          · simp [intOf]
            omega
        · obtain rfl : i = p := by omega
          have hlz : ¬ (i : Int) < (i : Int) := by omega
          go_wp2
          first | go_end0 | refine bodyPost_ret (results_none rfl _ _ _) rfl ?_
          exact ⟨rfl, m1, d1, o1, _, by first | rfl | exact hw1, hs1.out, by first | (rw [HL.out]; simp; done) | rw [HL.out], HFIN.out⟩

end Go.Proofs.Ytolcgopfbbmjgaa
