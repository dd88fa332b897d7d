/-
  Texts joined: RelR, RelW.
-/
import Derived.Test.YtiampiakhkpcbaaWords
import Derived.Test.YtiampiakhkpcbaaAppend
import Derived.Test.YtiampiakhkpcbaaOwn
import Derived.Test.YtiampiakhkpcbaaGarL
import Derived.Test.YtiampiakhkpcbaaPk2
import Derived.Test.YtiampiakhkpcbaaPk1
import Derived.Test.YtiampiakhkpcbaaSpot
import Derived.Deep.DeepCutAuto
import Derived.Deep.CutRange
import Derived.Deep.CutBlock
import Derived.Deep.RegionLaw
/-
  A copy of a row of ints that may grow; a row kept while only the source turns.
-/
namespace Go.Proofs.Ytiampiakhkpcbaa
set_option linter.unusedVariables false
set_option linter.unusedSimpArgs false
open Go.RowKit

theorem own_only {w w' : World} {B e size n gs : Nat} {v : Value} {xs : List Value} (h : w.ownsRow B e size v n xs) (ho : Only gs (gs + 1) w w') (hg : gs < B) : w'.ownsRow B e size v n xs := by
  refine ⟨h.1, ?_⟩
  rcases h.2 with h2 | ⟨g, cap, cur, hv, hg', hh, h3⟩
  · exact .inl h2
  · exact .inr ⟨g, cap, cur, hv, hg', (ho.block g (Array.getElem?_eq_some_iff.1 hh).1 (by omega)).trans hh, h3⟩
/- append([]int64{}, list...), the result an own row that may grow: l00OwnC name · spec.l00Own function -/
set_option maxHeartbeats 1000000 in
theorem l00OwnC_any (v : Value) (l : List Int) (w : World) (hl : RdI w w.heap.size v l) (hlen : l.length ≤ 1048576) :
    Calls Try.prog 58 #[v] w (GivesRow w 2 1 l.length (vI l)) := by
  obtain ⟨A, c, rfl⟩ := hl.len
  obtain ⟨i0, hi, hz0, hz1, hz2⟩ := info_parts info_int
  have HR := Lib.hid (hl.reads).1
  generalize hn : l.length = n at *
  clear hl hn
  go_enter Try.func58, Try.ntmps58
  go_wp2_with (at_builtin; refine wpList_append_any _ rfl _ _ _ rfl w.heap.size 2 i0 _ 1 8 Try.underlying41 hi hz0 hz1 hz2 rfl (by decide) _ 0 [] rfl (World.ownsRow_lit _ _ _ (Nat.le_refl _) (by unfold maxLen; omega) rfl) w.heap.size _ n c (vI l) rfl (HR.out.alloc (Nat.le_refl _) _) (vI_one l) (by unfold maxLen; omega) (by omega) (by simp) ?_)
  intro v1 w1 hown hg hat
  have HB := Lib.hid (((Below.refl w.heap.size w).alloc (Nat.le_refl _) _).grown hg (by simp) (fun kk hkk => by simp [Value.ownBlock] at hkk; omega))
  have HO : Hid (w1.ownsRow w.heap.size 2 1 v1 n (vI l)) := by unfold Hid; simpa using hown
  clear hown hg hat
  go_wp2
  go_ret
  exact ⟨_, rfl, HO.out, HB.out⟩
theorem l03Abs_w (k : Int) (h0 : -1000 ≤ k) (h1 : k ≤ 1000) (w : World) : Calls Try.prog 59 #[.int .i64 k] w fun e w' => e = .returned (.int .i64 (k.natAbs : Int)) ∧ Below w.heap.size w w' := by
  have hw : IntKind.i64.wrap (-k) = -k := IntWalk.i64_in _ (by omega)
  by_cases h : k < 0
  · have HQ := Lib.hid (show (k.natAbs : Int) = -k by omega)
    go_enter Try.func59, Try.ntmps59
    go_wp2
    go_ret
    exact ⟨ret_int HQ.out.symm, Below.refl _ _⟩
  · have HQ := Lib.hid (show (k.natAbs : Int) = k by omega)
    go_enter Try.func59, Try.ntmps59
    go_wp2
    go_ret
    exact ⟨ret_int HQ.out.symm, Below.refl _ _⟩
theorem own_ptr {w : World} {base e sz n c : Nat} {A : Option Addr} {xs : List Value} (h : w.ownsRow base e sz (.slice A n c) n xs) (hn : 0 < n) : ∃ g, A = some ⟨g, 0, none⟩ ∧ base ≤ g ∧ g < w.heap.size := by
  rcases h.2 with ⟨e, h2⟩ | ⟨g', cap', cur, e, hb, hh, -⟩
  · injection e with e1 e2 e3
    omega
  · injection e with e1 e2 e3
    exact ⟨g', e1, hb, (Array.getElem?_eq_some_iff.1 hh).1⟩
theorem vI_get {l : List Int} {k : Nat} {a : Int} (h : l[k]? = some a) : (vI l)[k]? = some (.int .i64 a) := by simp [vI, h]
theorem vI_set (l : List Int) (k : Nat) (a : Int) : (vI l).set k (.int .i64 a) = vI (l.set k a) := by simp [vI, List.map_set]
theorem own_caps {w : World} {base e sz n c : Nat} {A : Option Addr} {xs : List Value} (h : w.ownsRow base e sz (.slice A n c) n xs) : n ≤ c := by
  rcases h.2 with ⟨e, h2⟩ | ⟨g', cap', cur, e, hb, hh, hn, -⟩
  · injection e with e1 e2 e3
    omega
  · injection e with e1 e2 e3
    omega
theorem own_base {w : World} {base base' e sz n : Nat} {v : Value} {xs : List Value} (h : w.ownsRow base e sz v n xs) (hb : base' ≤ base) : w.ownsRow base' e sz v n xs := by
  refine ⟨h.1, ?_⟩
  rcases h.2 with h2 | ⟨g, cap, cur, hv, hg', hh, h3⟩
  · exact .inl h2
  · exact .inr ⟨g, cap, cur, hv, by omega, hh, h3⟩
theorem RdI.pre {w : World} {B n c : Nat} {A : Option Addr} {l : List Int} (h : RdI w B (.slice A n c) l) {k : Nat} (hk : k ≤ n) : RdI w B (.slice A k c) (l.take k) := by
  obtain ⟨A', n', c', e, g1, g2, g3⟩ := h
  injection e with e1 e2 e3
  subst e1 e2 e3
  refine ⟨A, k, c, rfl, by omega, by unfold Hid; rw [List.length_take]; have := g2.out; omega, fun j hj => ?_⟩
  obtain ⟨b, off, x, q1, q2, q3, q4⟩ := g3 j (by omega)
  exact ⟨b, off, x, q1, q2, by rw [List.getElem?_take_of_lt hj]; exact q3, q4⟩
theorem reads_two (w : World) (x y : Int) : Reads (w.alloc (.cells #[.int .i64 x, .int .i64 y] 2)) (w.heap.size + 1) 1 (some ⟨w.heap.size, 0, none⟩) 2 (vI [x, y]) :=
  ⟨rfl, fun _ => ⟨_, rfl, Nat.lt_succ_self _, new_cells' _ _ rfl⟩⟩
theorem reads_one (w : World) (x : Int) : Reads (w.alloc (.cells #[.int .i64 x] 2)) (w.heap.size + 1) 1 (some ⟨w.heap.size, 0, none⟩) 1 (vI [x]) :=
  ⟨rfl, fun _ => ⟨_, rfl, Nat.lt_succ_self _, new_cells' _ _ rfl⟩⟩
theorem vI_app (a b : List Int) : vI (a ++ b) = vI a ++ vI b := by simp [vI]
theorem vI_drop (a : List Int) (k : Nat) : vI (a.drop k) = (vI a).drop k := by simp [vI]

end Go.Proofs.Ytiampiakhkpcbaa

/-
  A word that is changed by relations: l04Relate.
-/
namespace Go.Proofs.Ytiampiakhkpcbaa
set_option linter.unusedVariables false
set_option linter.unusedSimpArgs false
open Go.RowKit

/-- A word that was changed by relations. -/
def Changed (w : World) (g : Nat) (K : Int) (n : Nat) (word : List Int) (ML : Nat) (e : Ending) (w' : World) : Prop := ∃ (v : Value) (l : List Int), e = .returned v ∧ w'.ownsRow w.heap.size 2 1 v l.length (vI l) ∧ Rel n word l ∧ l.length ≤ ML ∧ Src w' g K ∧ Only g (g + 1) w w'
set_option maxHeartbeats 8000000 in
set_option maxRecDepth 100000 in
theorem l04Relate_any {w : World} {gs n ML : Nat} {K : Int} {v : Value} {word : List Int} (hS : Src w gs K) (h0 : 2 ≤ n) (h1 : n ≤ 12) (hl : RdI w w.heap.size v word) (hw : LetsN n word) (hML : word.length ≤ ML) (h16 : 16 ≤ ML) (h99 : ML ≤ 1000) (hK : K + 60 ≤ 1000000000) :
    Calls Try.prog 39 #[.pointer (some ⟨gs, 0, none⟩), .int .i64 (n : Int), v] w (Changed w gs (K + 60) n word ML) := by
  obtain ⟨i0, hi, hz0, hz1, hz2⟩ := info_parts info_int
  have hgs := hS.lt
  have HS := Lib.hid hS
  have HWD := Lib.hid hw
  have HQ1 := Lib.hid (l00OwnC_any v word w hl (by omega))
  obtain ⟨A, c, rfl⟩ := hl.len
  clear hS hw hl
  go_enter Try.func39, Try.ntmps39
  go_wp2_with fail
  refine HQ1.out.mono ?_
  rintro e W1 ⟨v1, rfl, ho1, hb1⟩
  have S1 := Lib.hid (HS.out.below hb1 hgs)
  have O1 := Lib.hid ((Only.refl gs (gs + 1) w).below_ hb1)
  have R1 := Lib.hid ho1
  clear ho1 hb1 HS HQ1
  go_wp2_with fail
  refine (pick_any W1 gs 8 K S1.out (by omega)).mono ?_
  rintro e W2 ⟨k0, rfl, hk, hs2, ho2⟩
  have hk0 : 0 ≤ k0 := hk.1
  have hk1 : k0 < 8 := hk.2.1 (by omega)
  obtain ⟨n0, rfl⟩ := Int.eq_ofNat_of_zero_le hk0
  have S2 := Lib.hid hs2
  have O2 := Lib.hid (O1.out.trans ho2)
  have R2 := Lib.hid (own_only R1.out ho2 hgs)
  clear hk hs2 ho2 S1 O1 R1
  go_wp2_with fail
  go_loopw [7, 8] (fun v7 i wr => ∃ (kk : Nat) (l : List Int) (wq : World), wq = wr ∧ kk ≤ 7 ∧ i = .int .i64 kk ∧ l.length ≤ ML ∧ Hid (LetsN n l) ∧ Hid (Rel n word l) ∧ Hid (wq.ownsRow w.heap.size 2 1 v7 l.length (vI l)) ∧ Hid (Src wq gs (K + 2 + 8 * (7 - (kk : Int)))) ∧ Hid (Only gs (gs + 1) w wq)) (fun _ i _ => (intOf i).toNat)
  case atStart => exact ⟨n0, word, _, rfl, by omega, rfl, hML, HWD.out, .refl _, R2.out, S2.out.more (by omega) (by omega), O2.out⟩
  case round =>
    clear S2 O2 R2
    obtain ⟨kk, l, wq, hwq, hkk, rfl, hll, HL, HRL, HR, HSr, HO⟩ := hrel
    subst hwq
    obtain ⟨A7, c7, rfl⟩ := own_shape HR.out
    by_cases hz : kk = 0
    · subst hz
      go_wp2
      go_ret
      exact ⟨_, l, rfl, HR.out, HRL.out, hll, HSr.out.more (by omega) hK, HO.out⟩
    · have hlt0 : (0 : Int) < (kk : Int) := by omega
      have hw1 : IntKind.i64.wrap ((l.length : Int) + 1) = (l.length : Int) + 1 := IntWalk.i64_in _ (by omega)
      go_wp2_with fail
      refine (pick_any wq gs _ _ HSr.out (by omega)).mono ?_
      rintro e W3 ⟨a, rfl, ha, hs3, ho3⟩
      have ha0 : 0 ≤ a := ha.1
      have ha1 : a ≤ (l.length : Int) := by
        rcases (by omega : 1 < (l.length : Int) + 1 ∨ (l.length : Int) + 1 ≤ 1) with h1 | h1
        · have := ha.2.1 h1; omega
        · have := ha.2.2 h1; omega
      obtain ⟨at_, rfl⟩ := Int.eq_ofNat_of_zero_le ha0
      have hat : at_ ≤ l.length := by omega
      have S3 := Lib.hid hs3
      have O3 := Lib.hid (HO.out.trans ho3)
      have R3 := Lib.hid (own_only HR.out ho3 hgs)
      clear ha hs3 ho3 HR HSr HO hw1
      go_wp2_with fail
      refine (pick_any W3 gs 3 _ S3.out (by omega)).mono ?_
      rintro e W4 ⟨z, rfl, hzz, hs4, ho4⟩
      have hz0' : 0 ≤ z := hzz.1
      have hz3 : z < 3 := hzz.2.1 (by omega)
      have S4 := Lib.hid (hs4.more (K' := K + 2 + 8 * (7 - (kk : Int)) + 4) (by omega) (by omega))
      have O4 := Lib.hid (O3.out.trans ho4)
      have R4 := Lib.hid (own_only R3.out ho4 hgs)
      have hzc : z = 0 ∨ z = 1 ∨ z = 2 := by omega
      clear hzz hs4 ho4 S3 O3 R3
      rcases hzc with rfl | rfl | rfl
      · have hw2 : IntKind.i64.wrap ((n : Int) - 1) = (n : Int) - 1 := IntWalk.i64_in _ (by omega)
        go_wp2_with fail
        refine (pick_any W4 gs _ _ S4.out (by omega)).mono ?_
        rintro e w5 ⟨y, rfl, hy, hs5, ho5⟩
        have hy0 : 0 ≤ y := hy.1
        have hyn : 1 + y < (n : Int) := by
          obtain ⟨q1, q2, q3⟩ := hy
          by_cases hc : 1 < (n : Int) - 1
          · have := q2 hc; omega
          · have := q3 (by omega); omega
        have hw3 : IntKind.i64.wrap (1 + y) = 1 + y := IntWalk.i64_in _ (by omega)
        obtain ⟨x, hx⟩ : ∃ x, x = 1 + y := ⟨_, rfl⟩
        rw [← hx] at hyn hw3
        have hx0 : 1 ≤ x := by omega
        have HLT := Lib.hid (show Ltr n x from ⟨by omega, by omega⟩)
        have hx' : 1 + y = x := hx.symm
        have S5 := Lib.hid (hs5.more (K' := K + 2 + 8 * (7 - (kk : Int)) + 6) (by omega) (by omega))
        have O5 := Lib.hid (O4.out.trans ho5)
        have R5 := Lib.hid (own_only R4.out ho5 hgs)
        clear hy hs5 ho5 S4 O4 R4 hx hw2
        by_cases h14 : l.length < 14
        · have hcap := own_caps R5.out
          have hat7 : at_ ≤ c7 := by omega
          have hwn : IntKind.i64.wrap (-x) = -x := IntWalk.i64_in _ (by omega)
          have h14' : (l.length : Int) < 14 := by omega
          have hlt : (l.take at_).length = at_ := by rw [List.length_take]; omega
          obtain ⟨ad, had⟩ : ∃ ad, (if c7 = at_ then A7 else A7.map (fun a => a.add at_)) = ad := ⟨_, rfl⟩
          have HRO := Lib.hid (show Reads w5 w5.heap.size 1 ad (l.length - at_) (vI (l.drop at_)) by
            have h9 := (Reads.of_own R5.out).cut (k := at_) hat hcap
            rw [Nat.mul_one, had, ← vI_drop] at h9
            exact h9)
          have HQC := Lib.hid (fun (wz : World) (hb : Below w5.heap.size w5 wz) => l00OwnC_any (.slice A7 at_ c7) (l.take at_) wz ((((RdI.of_own (OwC.of_own R5.out)).pre hat).below hb).more hb.size) (by omega))
          have hz5 : w.heap.size ≤ w5.heap.size := O5.out.size
          rw [hlt] at HQC
          have HLT2 := Lib.hid hlt
          clear hlt
          have HBA := Lib.hid (show Below w5.heap.size w5 (w5.alloc (.cells #[.int .i64 x, .int .i64 (-x)] 2)).drew from ((Below.refl _ w5).alloc (Nat.le_refl _) _).drew)
          have HR2 := Lib.hid (reads_two w5 x (-x))
          go_upto_region 15 with fail
          go_region_law (first
            | (refine step_append_any _ rfl (.tmp 110) (.tmp 114) _ rfl w5.heap.size 2 i0 _ 1 8 Try.underlying41 hi hz0 hz1 hz2 rfl (by decide) _ _ _ rfl (own_base ho6 hbz6) _ (some ⟨w5.heap.size, 0, none⟩) 2 2 _ rfl hrs6 (vI_one _) (by unfold maxLen; omega) (by omega) hz6 ?_; intro v7 w7 hown7 hg7 hat7'; have hb7 : Below w5.heap.size w5 w7 := hb6'.grown hg7 hz6 (fun gg hgg => Nat.le_trans hbz6 (ho6.lt gg hgg).1); have hro7 := HRO.out.below hb7; clear hat7')
            | (refine step_append_any _ rfl (.tmp 110) (.tmp 114) _ rfl w5.heap.size 2 i0 _ 1 8 Try.underlying41 hi hz0 hz1 hz2 rfl (by decide) _ _ _ rfl (own_below hoA6 ((Below.refl _ w6).alloc (Nat.le_refl _) (.cells #[.int .i64 x, .int .i64 (-x)] 2))) _ (some ⟨w6.heap.size, 0, none⟩) 2 2 _ rfl (reads_two w6 x (-x)) (vI_one _) (by unfold maxLen; omega) (by omega) (by rw [World.size_alloc]; omega) ?_; intro v7 w7 hown7 hg7 hat7'; have hb7 : Below w5.heap.size w5 w7 := (hb6'.alloc hb6'.size (.cells #[.int .i64 x, .int .i64 (-x)] 2)).grown hg7 (by rw [World.size_alloc]; have := hb6'.size; omega) (fun gg hgg => (ho6.lt gg hgg).1); have hro7 := HRO.out.below hb7; clear hat7')
            | (refine step_append_any _ rfl (.tmp 115) (.tmp 118) _ rfl w5.heap.size 2 i0 _ 1 8 Try.underlying41 hi hz0 hz1 hz2 rfl (by decide) _ _ _ rfl hown7 _ ad _ _ _ rfl hro7 (vI_one _) (by unfold maxLen; omega) (by omega) hb7.size ?_; intro v8 w8 hown8 hg8 hat8'; have hb8 : Below w5.heap.size w5 w8 := hb7.grown hg8 hb7.size (fun gg hgg => (hown7.lt gg hgg).1); clear hat8')
            | (go_simp; go_wp2_with (first | (go_at_call 58; refine (HQC.out _ (Below.refl _ w5).drew).mono ?_; rintro e w6 ⟨v6, rfl, hoA6, hb6⟩; have ho6 := hoA6; have hb6' : Below w5.heap.size w5 w6 := (Below.refl _ w5).drew.trans hb6; have hz6 := hb6'.size; obtain ⟨A6, c6, rfl⟩ := own_shape ho6) | (go_at_call 58; refine (HQC.out _ HBA.out).mono ?_; rintro e w6 ⟨v6, rfl, ho6, hb6⟩; have hb6' : Below w5.heap.size w5 w6 := HBA.out.trans (hb6.mono HBA.out.size); have hz6 := hb6'.size; have hbz6 : w5.heap.size ≤ (w5.alloc (.cells #[.int .i64 x, .int .i64 (-x)] 2)).drew.heap.size := HBA.out.size; have hrs6 := (HR2.out.drew).below (by have h9 := hb6; rwa [show (w5.alloc (.cells #[.int .i64 x, .int .i64 (-x)] 2)).drew.heap.size = w5.heap.size + 1 from World.size_alloc _ _] at h9); obtain ⟨A6, c6, rfl⟩ := own_shape ho6))))
          all_goals
            have HRS := Lib.hid (rel_ins HLT.out l at_)
            have hl8 : (l.take at_ ++ (x :: -x :: l.drop at_)).length = at_ + 2 + (l.length - at_) := by
              have h9 := HLT2.out
              simp only [List.length_append, List.length_cons, List.length_drop]
              rw [h9]; omega
            have R8 : Hid (w8.ownsRow w.heap.size 2 1 v8 (l.take at_ ++ (x :: -x :: l.drop at_)).length (vI (l.take at_ ++ (x :: -x :: l.drop at_)))) := by
              unfold Hid
              rw [hl8, show l.take at_ ++ (x :: -x :: l.drop at_) = (l.take at_ ++ [x, -x]) ++ l.drop at_ by simp, vI_app, vI_app]
              exact own_base hown8 hz5
            have S8 := Lib.hid (S5.out.below hb8 S5.out.lt)
            have O8 := Lib.hid (O5.out.trans (Only.of_below hb8))
            have hl9 : (l.take at_ ++ (x :: -x :: l.drop at_)).length ≤ ML := by omega
            clear hown8 hg8 hb8 hown7 hg7 hb7 hro7 ho6 hb6 hb6' hl8 S5 O5 R5 HRO HQC HBA HR2
            go_wp2
            exact ⟨⟨kk - 1, l.take at_ ++ (x :: -x :: l.drop at_), _, rfl, by omega, by go_num, hl9, HRS.out.lets.1 HL.out, HRL.out.trans HRS.out, R8.out, S8.out.more (by omega) (by omega), O8.out⟩, by simp [intOf]; omega⟩
        · have h14' : ¬ (l.length : Int) < 14 := by omega
          go_wp2
          exact ⟨⟨kk - 1, l, _, rfl, by omega, by go_num, hll, HL.out, HRL.out, R5.out, S5.out.more (by omega) (by omega), O5.out⟩, by simp [intOf]; omega⟩
      · by_cases hlt : at_ + 1 < l.length
        · obtain ⟨at1, hat1⟩ : ∃ at1, at1 = at_ + 1 := ⟨_, rfl⟩
          obtain ⟨g, rfl, hg0, hg1⟩ := own_ptr R4.out (by omega)
          have ha := List.getElem?_eq_getElem (show at_ < l.length by omega)
          have hb := List.getElem?_eq_getElem (show at1 < l.length by omega)
          generalize l[at_] = a at ha
          generalize l[at1] = b at hb
          have hlt1 : at1 < l.length := by omega
          obtain ⟨a1, a2⟩ := HL.out a (List.mem_of_getElem? ha)
          obtain ⟨b1, b2⟩ := HL.out b (List.mem_of_getElem? hb)
          have HA := Lib.hid ha
          have HBb := Lib.hid hb
          have c0 := fun X => wgrow_cell (x := X) (own_cellx R4.out (vI_get ha)).1
          have c1 := fun X => wgrow_cell (x := X) (own_cellx R4.out (vI_get hb)).1
          have hw1 : IntKind.i64.wrap ((at_ : Int) + 1) = (at1 : Int) := by rw [IntWalk.i64_in _ (by omega)]; omega
          have hw2 : IntKind.i64.wrap ((a.natAbs : Int) - b.natAbs) = (a.natAbs : Int) - b.natAbs := IntWalk.i64_in _ (by omega)
          have hg : decide ((at1 : Int) < (l.length : Int)) = true := by simp; omega
          have hg' : decide (at1 < l.length) = true := by simpa using hlt1
          have hat0 : at_ < l.length := by omega
          have HAT1 := Lib.hid hat1
          have HAB := Lib.hid (And.intro a2 b2)
          clear ha hb a1 b1 a2 b2
          generalize hq : inB (-1) ((a.natAbs : Int) - b.natAbs) 1 = q
          have HQ := Lib.hid hq
          have hab9 := HAB.out
          have HQA := Lib.hid (fun X => l03Abs_w a (by omega) (by omega) X)
          have HQB := Lib.hid (fun X => l03Abs_w b (by omega) (by omega) X)
          have HQI := Lib.hid (fun X => l00In_b ((a.natAbs : Int) - b.natAbs) (-1) 1 X)
          rw [hq] at HQI
          clear hq hab9 hat1 hlt
          go_wp2_with fail
          refine wp_region_grow (by kernel_rfl) (by kernel_rfl) ?_
          iterate 10 (go_big_quiet_step (fail))
          go_big_quiet_step ((go_at_call 59; exact calls_grow (HQA.out _)))
          iterate 5 (go_big_quiet_step (fail))
          go_big_quiet_step ((go_at_call 59; exact calls_grow (HQB.out _)))
          iterate 1 (go_big_quiet_step (fail))
          go_big_quiet_step ((go_at_call 57; exact calls_grow (HQI.out _)))
          repeat (go_big_quiet_step (fail))
          refine wpQuiet_nil ?_
          intro w5 hb5
          have S5 := Lib.hid (S4.out.below hb5 S4.out.lt)
          have O5 := Lib.hid (O4.out.trans (Only.of_below hb5))
          have R5 := Lib.hid (own_below R4.out hb5)
          have hg5 : g < w5.heap.size := Nat.lt_of_lt_of_le hg1 hb5.size
          clear hb5 S4 O4 R4 c0 c1 HQA HQB HQI hw2 hg hg'
          cases q
          · have HRS := Lib.hid (rel_swap HL.out HA.out (HAT1.out ▸ HBb.out) (by
              have h9 := HQ.out
              unfold inB at h9
              simp at h9
              omega))
            rw [← HAT1.out] at HRS
            have y0 := (own_cellx R5.out (vI_get HA.out)).1
            have y1 := (own_cellx R5.out (vI_get HBb.out)).1
            have yf := (own_cellx R5.out (vI_get HA.out)).2.1
            have R6 := Lib.hid (own_setx (.int .i64 b) R5.out (i := at_) (by omega))
            rw [vI_set] at R6
            have S6 := Lib.hid (S5.out.setNew (b := g) (by omega) at_ (.int .i64 b))
            have O6 := Lib.hid (O5.out.setNew (b := g) hg0 at_ (.int .i64 b))
            go_upto_region 20 with fail
            generalize w5.setCell ⟨g, at_, none⟩ (.int .i64 b) = w6 at *
            clear y0 y1 yf S5 O5 R5
            have hne : at_ ≠ at1 := by have := HAT1.out; omega
            have hb6 : (l.set at_ b)[at1]? = some b := by rw [List.getElem?_set_ne hne]; exact HBb.out
            have y1 := (own_cellx R6.out (vI_get hb6)).1
            have yf := (own_cellx R6.out (vI_get hb6)).2.1
            have R7 := Lib.hid (own_setx (.int .i64 a) R6.out (i := at1) (by omega))
            rw [vI_set] at R7
            have S7 := Lib.hid (S6.out.setNew (b := g) (by omega) at1 (.int .i64 a))
            have O7 := Lib.hid (O6.out.setNew (b := g) hg0 at1 (.int .i64 a))
            have hl7 : ((l.set at_ b).set at1 a).length = l.length := by simp
            clear hb6 hne R6 S6 O6
            go_wp2
            exact ⟨⟨kk - 1, (l.set at_ b).set at1 a, _, rfl, by omega, by go_num, by omega, HRS.out.lets.1 HL.out, HRL.out.trans HRS.out, by rw [hl7]; exact R7.out, S7.out.more (by omega) (by omega), O7.out⟩, by simp [intOf]; omega⟩
          · go_wp2
            exact ⟨⟨kk - 1, l, _, rfl, by omega, by go_num, hll, HL.out, HRL.out, R5.out, S5.out.more (by omega) (by omega), O5.out⟩, by simp [intOf]; omega⟩
        · obtain ⟨at1, hat1⟩ : ∃ at1, at1 = at_ + 1 := ⟨_, rfl⟩
          have hw1 : IntKind.i64.wrap ((at_ : Int) + 1) = (at1 : Int) := by rw [IntWalk.i64_in _ (by omega)]; omega
          have hg : decide ((at1 : Int) < (l.length : Int)) = false := by simp; omega
          have hg' : decide (at1 < l.length) = false := by simp; omega
          clear hat1 hlt
          -- l04Relate: a region that only reads, behind which the word is as it was
          go_wp2_with fail
          refine wp_region_grow (by kernel_rfl) (by kernel_rfl) ?_
          repeat (go_big_quiet_step (fail))
          refine wpQuiet_nil ?_
          intro w5 hb5
          have S5 := Lib.hid (S4.out.below hb5 S4.out.lt)
          have O5 := Lib.hid (O4.out.trans (Only.of_below hb5))
          have R5 := Lib.hid (own_below R4.out hb5)
          clear hb5 S4 O4 R4
          go_wp2
          exact ⟨⟨kk - 1, l, _, rfl, by omega, by go_num, hll, HL.out, HRL.out, R5.out, S5.out.more (by omega) (by omega), O5.out⟩, by simp [intOf]; omega⟩
      · obtain ⟨at2, hat2⟩ : ∃ at2, at2 = at_ + 2 := ⟨_, rfl⟩
        have hw2 : IntKind.i64.wrap ((at_ : Int) + 2) = (at2 : Int) := by rw [IntWalk.i64_in _ (by omega)]; omega
        by_cases hlt : at2 < l.length
        case neg =>
          have hg : decide ((at2 : Int) < (l.length : Int)) = false := by simp; omega
          have hg' : decide (at2 < l.length) = false := by simp; omega
          clear hat2 hlt
          -- l04Relate: a region that only reads, behind which the word is as it was
          go_wp2_with fail
          refine wp_region_grow (by kernel_rfl) (by kernel_rfl) ?_
          repeat (go_big_quiet_step (fail))
          refine wpQuiet_nil ?_
          intro w5 hb5
          have S5 := Lib.hid (S4.out.below hb5 S4.out.lt)
          have O5 := Lib.hid (O4.out.trans (Only.of_below hb5))
          have R5 := Lib.hid (own_below R4.out hb5)
          clear hb5 S4 O4 R4
          go_wp2
          exact ⟨⟨kk - 1, l, _, rfl, by omega, by go_num, hll, HL.out, HRL.out, R5.out, S5.out.more (by omega) (by omega), O5.out⟩, by simp [intOf]; omega⟩
        obtain ⟨at1, hat1⟩ : ∃ at1, at1 = at_ + 1 := ⟨_, rfl⟩
        have hw1 : IntKind.i64.wrap ((at_ : Int) + 1) = (at1 : Int) := by rw [IntWalk.i64_in _ (by omega)]; omega
        have hg : decide ((at2 : Int) < (l.length : Int)) = true := by simp; omega
        have hg' : decide (at2 < l.length) = true := by simpa using hlt
        obtain ⟨g, rfl, hg0, hg1⟩ := own_ptr R4.out (by omega)
        have ha := List.getElem?_eq_getElem (show at_ < l.length by omega)
        have hb := List.getElem?_eq_getElem (show at1 < l.length by omega)
        have hd := List.getElem?_eq_getElem hlt
        generalize l[at_] = a at ha
        generalize l[at1] = b at hb
        generalize l[at2] = d at hd
        obtain ⟨a1, a2⟩ := HL.out a (List.mem_of_getElem? ha)
        obtain ⟨b1, b2⟩ := HL.out b (List.mem_of_getElem? hb)
        have hat0 : at_ < l.length := by omega
        have hat3 : at1 < l.length := by omega
        have HA := Lib.hid ha
        have HBb := Lib.hid hb
        have HDd := Lib.hid hd
        have HAT1 := Lib.hid hat1
        have HAT2 := Lib.hid hat2
        have c0 := fun X => wgrow_cell (x := X) (own_cellx R4.out (vI_get ha)).1
        have c1 := fun X => wgrow_cell (x := X) (own_cellx R4.out (vI_get hb)).1
        have c2 := fun X => wgrow_cell (x := X) (own_cellx R4.out (vI_get hd)).1
        obtain ⟨P, hP⟩ : ∃ P, P = a * b := ⟨_, rfl⟩
        have hm : IntKind.i64.wrap (a * b) = P := by
          have h9 : (a * b).natAbs ≤ 12 * 12 := by rw [Int.natAbs_mul]; exact Nat.mul_le_mul (by omega) (by omega)
          rw [hP]
          exact IntWalk.i64_in _ (by omega)
        have hsb : IntKind.i64.wrap (a - b) = a - b := IntWalk.i64_in _ (by omega)
        have HAB := Lib.hid (And.intro a2 b2)
        have HQD := Lib.hid (fun X => l03Abs_w (a - b) (by omega) (by omega) X)
        clear ha hb hd a1 b1 a2 b2 hat1 hat2
        have HP := Lib.hid hP
        clear hP
        by_cases had : a = d
        case neg =>
          have e1 : (a == d) = false := by simpa using had
          clear had HQD
          -- l04Relate: a region that only reads, behind which the word is as it was
          go_wp2_with fail
          refine wp_region_grow (by kernel_rfl) (by kernel_rfl) ?_
          repeat (go_big_quiet_step (fail))
          refine wpQuiet_nil ?_
          intro w5 hb5
          have S5 := Lib.hid (S4.out.below hb5 S4.out.lt)
          have O5 := Lib.hid (O4.out.trans (Only.of_below hb5))
          have R5 := Lib.hid (own_below R4.out hb5)
          clear hb5 S4 O4 R4
          go_wp2
          exact ⟨⟨kk - 1, l, _, rfl, by omega, by go_num, hll, HL.out, HRL.out, R5.out, S5.out.more (by omega) (by omega), O5.out⟩, by simp [intOf]; omega⟩
        have e1 : (a == d) = true := by simpa using had
        have HAD := Lib.hid had
        clear had
        by_cases hp : 0 < P
        case neg =>
          have e2 : decide (0 < P) = false := by simpa using hp
          clear HQD
          -- l04Relate: a region that only reads, behind which the word is as it was
          go_wp2_with fail
          refine wp_region_grow (by kernel_rfl) (by kernel_rfl) ?_
          repeat (go_big_quiet_step (fail))
          refine wpQuiet_nil ?_
          intro w5 hb5
          have S5 := Lib.hid (S4.out.below hb5 S4.out.lt)
          have O5 := Lib.hid (O4.out.trans (Only.of_below hb5))
          have R5 := Lib.hid (own_below R4.out hb5)
          clear hb5 S4 O4 R4
          go_wp2
          exact ⟨⟨kk - 1, l, _, rfl, by omega, by go_num, hll, HL.out, HRL.out, R5.out, S5.out.more (by omega) (by omega), O5.out⟩, by simp [intOf]; omega⟩
        have e2 : decide (0 < P) = true := by simpa using hp
        have HPP := Lib.hid hp
        clear hp
        generalize hD : ((a - b).natAbs : Int) = D at *
        have HDD := Lib.hid hD
        clear hD
        have hD1 : (D == 1) = true ∨ (D == 1) = false := by cases D == 1 <;> simp
        rcases hD1 with hD1 | hD1
        case inr =>
          go_wp2_with fail
          refine wp_region_grow (by kernel_rfl) (by kernel_rfl) ?_
          iterate 41 (go_big_quiet_step (fail))
          go_big_quiet_step ((go_at_call 59; exact calls_grow (HQD.out _)))
          repeat (go_big_quiet_step (fail))
          refine wpQuiet_nil ?_
          intro w5 hb5
          have S5 := Lib.hid (S4.out.below hb5 S4.out.lt)
          have O5 := Lib.hid (O4.out.trans (Only.of_below hb5))
          have R5 := Lib.hid (own_below R4.out hb5)
          clear hb5 S4 O4 R4 HQD
          go_wp2
          exact ⟨⟨kk - 1, l, _, rfl, by omega, by go_num, hll, HL.out, HRL.out, R5.out, S5.out.more (by omega) (by omega), O5.out⟩, by simp [intOf]; omega⟩
        have HD1 := Lib.hid (show a - b = 1 ∨ b - a = 1 by have h9 := HDD.out; simp at hD1; omega)
        go_wp2_with fail
        refine wp_region_grow (by kernel_rfl) (by kernel_rfl) ?_
        iterate 41 (go_big_quiet_step (fail))
        go_big_quiet_step ((go_at_call 59; exact calls_grow (HQD.out _)))
        repeat (go_big_quiet_step (fail))
        refine wpQuiet_nil ?_
        intro w5 hb5
        have S5 := Lib.hid (S4.out.below hb5 S4.out.lt)
        have O5 := Lib.hid (O4.out.trans (Only.of_below hb5))
        have R5 := Lib.hid (own_below R4.out hb5)
        have hg5 : g < w5.heap.size := Nat.lt_of_lt_of_le hg1 hb5.size
        clear hb5 S4 O4 R4 c0 c1 c2 HQD hg hg' e1 e2 hD1 hm hsb
        have HRS := Lib.hid (rel_brd HL.out HA.out (HAT1.out ▸ HBb.out) (HAT2.out ▸ HAD.out ▸ HDd.out) (HP.out ▸ HPP.out) HD1.out)
        rw [← HAT1.out, ← HAT2.out] at HRS
        have y0 := (own_cellx R5.out (vI_get HA.out)).1
        have y1 := (own_cellx R5.out (vI_get HBb.out)).1
        have yf := (own_cellx R5.out (vI_get HA.out)).2.1
        have R6 := Lib.hid (own_setx (.int .i64 b) R5.out (i := at_) (by omega))
        rw [vI_set] at R6
        have S6 := Lib.hid (S5.out.setNew (b := g) (by omega) at_ (.int .i64 b))
        have O6 := Lib.hid (O5.out.setNew (b := g) hg0 at_ (.int .i64 b))
        go_upto_region 10 with fail
        generalize w5.setCell ⟨g, at_, none⟩ (.int .i64 b) = w6 at *
        clear y0 y1 yf S5 O5 R5
        have hne : at_ ≠ at1 := by have := HAT1.out; omega
        have hne2 : at1 ≠ at2 := by have := HAT1.out; have := HAT2.out; omega
        have hne3 : at_ ≠ at2 := by have := HAT2.out; omega
        have hb6 : (l.set at_ b)[at1]? = some b := by rw [List.getElem?_set_ne hne]; exact HBb.out
        have y1 := (own_cellx R6.out (vI_get hb6)).1
        have yf := (own_cellx R6.out (vI_get hb6)).2.1
        have R7 := Lib.hid (own_setx (.int .i64 a) R6.out (i := at1) (by omega))
        rw [vI_set] at R7
        have S7 := Lib.hid (S6.out.setNew (b := g) (by omega) at1 (.int .i64 a))
        have O7 := Lib.hid (O6.out.setNew (b := g) hg0 at1 (.int .i64 a))
        go_upto_region 11 with fail
        generalize w6.setCell ⟨g, at1, none⟩ (.int .i64 a) = w7 at *
        clear y1 yf S6 O6 R6 hb6
        have hb7 : ((l.set at_ b).set at1 a)[at_]? = some b := by
          rw [List.getElem?_set_ne (fun e => hne e.symm), List.getElem?_set_self (by omega)]
        have hd7 : ((l.set at_ b).set at1 a)[at2]? = some d := by
          rw [List.getElem?_set_ne hne2, List.getElem?_set_ne hne3]
          exact HDd.out
        have y0 := (own_cellx R7.out (vI_get hb7)).1
        have y2 := (own_cellx R7.out (vI_get hd7)).1
        have yf := (own_cellx R7.out (vI_get hd7)).2.1
        have R8 := Lib.hid (own_setx (.int .i64 b) R7.out (i := at2) (by omega))
        rw [vI_set] at R8
        have S8 := Lib.hid (S7.out.setNew (b := g) (by omega) at2 (.int .i64 b))
        have O8 := Lib.hid (O7.out.setNew (b := g) hg0 at2 (.int .i64 b))
        have hl8 : (((l.set at_ b).set at1 a).set at2 b).length = l.length := by simp
        clear hb7 hd7 hne hne2 hne3 R7 S7 O7
        go_wp2
        exact ⟨⟨kk - 1, ((l.set at_ b).set at1 a).set at2 b, _, rfl, by omega, by go_num, by omega, HRS.out.lets.1 HL.out, HRL.out.trans HRS.out, by rw [hl8]; exact R8.out, S8.out.more (by omega) (by omega), O8.out⟩, by simp [intOf]; omega⟩

end Go.Proofs.Ytiampiakhkpcbaa
