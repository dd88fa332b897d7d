/-
  Rows of rows as a result, in the laws: marked, and held.
-/
import Derived.Test.YtbffmekhhfhacaaMcMark
import Derived.Test.YtbffmekhhfhacaaMcEq
namespace Go.Proofs.Ytbffmekhhfhacaa
set_option linter.unusedVariables false
set_option linter.unusedSimpArgs false
open Go.RowKit

theorem RdLL.of_own {w : World} {lo hi : Nat} {v : Value} {l : List (List Int)} (h : OwLL w lo hi v l) : RdLL w hi v l :=
  RdN.of_own (fun lo hi us x h => oLL_rd h) (fun B B' us x hB h => rLL_more hB us x h) (by decide) h
/-- Rows of rows whose rows bear marks from K on. -/
def OmLL (w : World) (lo hi : Nat) (v : Value) (l : List (List Int)) (K : Int) : Prop :=
  ∃ (o0 o1 : Nat) (a b : Nat → Nat) (f : Nat → Value), lo ≤ o0 ∧ o1 ≤ hi ∧ (∀ k, k < l.length → lo ≤ a k ∧ b k ≤ hi ∧ (b k ≤ o0 ∨ o1 ≤ a k)) ∧ OwC w o0 o1 25 1 v l.length ((List.range (l.length * 1)).map f) ∧
    ∀ k x, l[k]? = some x → OwC w (a k) (b k) 2 1 (f k) x.length (vM (K + (sumL List.length (l.take k) : Int)) (x.length * 1))
theorem OmLL.below {w w' : World} {lo hi : Nat} {v : Value} {l : List (List Int)} {K : Int} (h : OmLL w lo hi v l K) (hb : Below hi w w') : OmLL w' lo hi v l K := by
  obtain ⟨o0, o1, a, b, f, h1, h2, h3, h4, h5⟩ := h
  exact ⟨o0, o1, a, b, f, h1, h2, h3, h4.below (hb.mono h2), fun k x hx => (h5 k x hx).below (hb.mono (h3 k (List.getElem?_eq_some_iff.1 hx).1).2.1)⟩
theorem sum_next {l : List (List Int)} {k : Nat} {x : List Int} (hx : l[k]? = some x) : sumL List.length (l.take (k + 1)) = sumL List.length (l.take k) + x.length := by
  unfold sumL
  rw [List.take_add_one, hx]
  simp
theorem sum_le (l : List (List Int)) (k : Nat) : sumL List.length (l.take k) ≤ sumL List.length l := by
  have e : sumL List.length l = sumL List.length (l.take k) + sumL List.length (l.drop k) := by
    unfold sumL
    conv => lhs; rw [← List.take_append_drop k l]
    rw [List.map_append, List.sum_append]
  omega

set_option maxHeartbeats 4000000 in
set_option maxRecDepth 100000 in
theorem markLL2_any (v : Value) (l : List (List Int)) (K : Int) (w : World) (lo hi : Nat) (ho : OwLL w lo hi v l) (hh : hi ≤ w.heap.size) (hK : 0 ≤ K) (hn : K + (sumL List.length l : Int) ≤ 1000000000000) :
    Calls Try.prog 32 #[v, .int .i64 K] w fun e w' => e = .returned (.int .i64 (K + (sumL List.length l : Int))) ∧ OmLL w' lo hi v l K ∧ Only lo hi w w' := by
  obtain ⟨o0, o1, a, b, f, g0, g1, g2, g3, g4, g5⟩ := ho
  obtain ⟨A, c, rfl, hbig, -⟩ := g4.cells
  have HO := Lib.hid g4
  have HG := Lib.hid g5
  have H2 := Lib.hid g2
  have H3 := Lib.hid g3
  have HSL := Lib.hid (fun k => sum_le l k)
  have HSN := Lib.hid (fun (k : Nat) (x : List Int) (hx : l[k]? = some x) => sum_next hx)
  have HS0 := Lib.hid (show sumL List.length (l.take 0) = 0 by simp [sumL])
  have HSE := Lib.hid (show sumL List.length (l.take l.length) = sumL List.length l by rw [List.take_length])
  have hom : ∀ W, OwC W o0 o1 25 1 (.slice A l.length c) l.length ((List.range (l.length * 1)).map f) → (∀ k x, l[k]? = some x → OwC W (a k) (b k) 2 1 (f k) x.length (vM (K + (sumL List.length (l.take k) : Int)) (x.length * 1))) → OmLL W lo hi (.slice A l.length c) l K :=
    fun W h1 h2 => ⟨o0, o1, a, b, f, g0, g1, g2, h1, h2⟩
  have HOM := Lib.hid hom
  generalize hS : (fun k => sumL List.length (l.take k)) = S at *
  have hSk : ∀ k, sumL List.length (l.take k) = S k := fun k => by rw [← hS]
  simp only [hSk] at HSL HSN HS0 HSE HOM
  generalize sumL List.length l = T at *
  clear g4 g5 g2 g3 hom hSk hS
  generalize hl : l.length = n at *
  have HL := Lib.hid hl
  clear hl
  go_enter Try.func32, Try.ntmps32
  go_wp2
  go_loopw [1, 5] (fun t i wr => ∃ (k : Nat), k ≤ n ∧ i = .int .i64 k ∧ t = .int .i64 (K + (S k : Int)) ∧ Hid (OwC wr o0 o1 25 1 (.slice A n c) n ((List.range (n * 1)).map f)) ∧
    Hid (∀ j x, k ≤ j → l[j]? = some x → oLL wr (a j) (b j) ((List.range 1).map fun q => f (j * 1 + q)) x) ∧ Hid (∀ j x, j < k → l[j]? = some x → OwC wr (a j) (b j) 2 1 (f j) x.length (vM (K + (S j : Int)) (x.length * 1))) ∧ Only lo hi w wr) (fun _ i _ => n - (intOf i).toNat)
  case atStart => exact ⟨0, Nat.zero_le _, rfl, by rw [HS0.out]; simp, HO.out, fun j x _ hx => HG.out j x hx, fun j x hj => absurd hj (by omega), Only.refl _ _ _⟩
  case round =>
    rename_i wr
    obtain ⟨k, hk, rfl, rfl, how, hg, hmk, hon⟩ := hrel
    have hsk := HSL.out k
    by_cases hlt : k < n
    · have hx : l[k]? = some (l[k]'(by rw [HL.out]; exact hlt)) := List.getElem?_eq_getElem _
      obtain ⟨x, hxe⟩ : ∃ x, x = l[k]'(by rw [HL.out]; exact hlt) := ⟨_, rfl⟩
      rw [← hxe] at hx
      obtain ⟨s, hs, hos⟩ := hg.out k x (Nat.le_refl _) hx
      simp at hs
      obtain ⟨A', c', e', -, hcell⟩ := how.out.cells
      injection e' with q1 _ q3
      subst q1 q3
      obtain ⟨g, rfl, hg0, hg1, -, hcc⟩ := hcell k hlt
      have hck := hcc k s (by omega) (by simp [hlt, hs])
      obtain ⟨A2, c2, hse, -⟩ := hos.cells
      have HSE2 := Lib.hid hs
      have hsn := HSN.out k x hx
      have hsk1 := HSL.out (k + 1)
      have HX := Lib.hid hx
      have HOS := Lib.hid hos
      have HON := Lib.hid hon
      obtain ⟨w1, w2, w3⟩ := H2.out k hlt
      have hzz : K + (S k : Int) + ((x.length : Nat) : Int) ≤ 1000000000000 := by omega
      have HSN2 := Lib.hid (show K + (S k : Int) + ((x.length : Nat) : Int) = K + (S (k + 1) : Int) by omega)
      subst hse
      clear hx hxe hs hos hcell hcc hon hsn
      go_wp2_with fail
      refine (markI_any _ _ _ _ _ _ _ HOS.out (by omega) hzz).mono ?_
      rintro e wn ⟨rfl, hmo, hmw⟩
      have hsz := HON.out.size
      have hbk : ∀ j x, k + 1 ≤ j → l[j]? = some x → oLL wn (a j) (b j) ((List.range 1).map fun q => f (j * 1 + q)) x := by
        intro j y hj hy
        have hjn : j < n := by rw [← HL.out]; exact (List.getElem?_eq_some_iff.1 hy).1
        obtain ⟨s', h1, h2⟩ := hg.out j y (by omega) hy
        have h3 := H2.out j hjn
        refine ⟨s', h1, h2.only hmw ?_ (by omega)⟩
        rcases H3.out k j hlt hjn (by omega) with h | h
        · exact .inr h
        · exact .inl h
      have hmk2 : ∀ j y, j < k + 1 → l[j]? = some y → OwC wn (a j) (b j) 2 1 (f j) y.length (vM (K + (S j : Int)) (y.length * 1)) := by
        intro j y hj hy
        have hjn : j < n := by rw [← HL.out]; exact (List.getElem?_eq_some_iff.1 hy).1
        by_cases hjk : j = k
        · subst hjk
          have hxy : x = y := by have := HX.out.symm.trans hy; injection this
          subst hxy
          rw [HSE2.out]
          exact hmo
        · have h3 := H2.out j hjn
          refine (hmk.out j y (by omega) hy).only hmw ?_ (by omega)
          rcases H3.out k j hlt hjn (by omega) with h | h
          · exact .inr h
          · exact .inl h
      have HBK := Lib.hid hbk
      have HMK := Lib.hid hmk2
      have HOW := Lib.hid (how.out.only hmw (by omega) (by omega))
      have HMW := Lib.hid (HON.out.trans (hmw.wide w1 w2))
      clear hbk hmo hmw hmk2
      go_wp2
      exact ⟨⟨k + 1, by omega, by go_num, by rw [HSN2.out], HOW.out, HBK.out, HMK.out, HMW.out⟩, by simp [intOf]; omega⟩
    · have hkn : k = n := by omega
      have HON := Lib.hid hon
      have HZ := Lib.hid (show K + (S k : Int) = K + (T : Int) by rw [hkn, HSE.out])
      have HOM2 := Lib.hid (HOM.out wr how.out (fun j x hx => hmk.out j x (by rw [hkn, ← HL.out]; exact (List.getElem?_eq_some_iff.1 hx).1) hx))
      clear hon hkn
      go_wp2
      go_ret
      exact ⟨ret_int HZ.out, HOM2.out, HON.out⟩

set_option maxHeartbeats 4000000 in
set_option maxRecDepth 100000 in
theorem heldLL_any (v : Value) (l : List (List Int)) (K : Int) (w : World) (lo hi : Nat) (ho : OmLL w lo hi v l K) (hK : 0 ≤ K) (hn : K + (sumL List.length l : Int) ≤ 1000000000000) :
    Calls Try.prog 33 #[v, .int .i64 K] w fun e w' => e = .returned (.int .i64 (K + (sumL List.length l : Int))) ∧ w = w' := by
  obtain ⟨o0, o1, a, b, f, g0, g1, g2, g4, g5⟩ := ho
  obtain ⟨A, c, rfl, hbig, hcell⟩ := g4.cells
  have HG := Lib.hid g5
  have HCE := Lib.hid hcell
  have HSL := Lib.hid (fun k => sum_le l k)
  have HSN := Lib.hid (fun (k : Nat) (x : List Int) (hx : l[k]? = some x) => sum_next hx)
  have HS0 := Lib.hid (show sumL List.length (l.take 0) = 0 by simp [sumL])
  have HSE := Lib.hid (show sumL List.length (l.take l.length) = sumL List.length l by rw [List.take_length])
  generalize hS : (fun k => sumL List.length (l.take k)) = S at *
  have hSk : ∀ k, sumL List.length (l.take k) = S k := fun k => by rw [← hS]
  simp only [hSk] at HSL HSN HS0 HSE HG
  generalize sumL List.length l = T at *
  clear g4 g5 g2 hSk hS hcell
  generalize hl : l.length = n at *
  have HL := Lib.hid hl
  clear hl
  go_enter Try.func33, Try.ntmps33
  go_wp2
  go_loop [1, 5] (fun t i => ∃ k : Nat, k ≤ n ∧ i = .int .i64 k ∧ t = .int .i64 (K + (S k : Int))) (fun _ i => n - (intOf i).toNat)
  case atStart => exact ⟨0, Nat.zero_le _, rfl, by rw [HS0.out]; simp⟩
  case round =>
    obtain ⟨k, hk, rfl, rfl⟩ := hrel
    have hsk := HSL.out k
    by_cases hlt : k < n
    · have hx : l[k]? = some (l[k]'(by rw [HL.out]; exact hlt)) := List.getElem?_eq_getElem _
      obtain ⟨x, hxe⟩ : ∃ x, x = l[k]'(by rw [HL.out]; exact hlt) := ⟨_, rfl⟩
      rw [← hxe] at hx
      have hos := HG.out k x hx
      obtain ⟨g, rfl, hg0, hg1, -, hcc⟩ := HCE.out k hlt
      have hck := hcc k (f k) (by omega) (by simp [hlt])
      obtain ⟨A2, c2, hse, -⟩ := hos.cells
      have hsn := HSN.out k x hx
      have hsk1 := HSL.out (k + 1)
      have HOS := Lib.hid hos
      rw [hse] at hck HOS
      have hzz : K + (S k : Int) + ((x.length : Nat) : Int) ≤ 1000000000000 := by omega
      have HSN2 := Lib.hid (show K + (S k : Int) + ((x.length : Nat) : Int) = K + (S (k + 1) : Int) by omega)
      clear hx hxe hos hcc hse hsn
      go_wp2_with fail
      refine (heldI_any _ _ _ _ _ _ HOS.out (by omega) hzz).mono ?_
      rintro e wn ⟨rfl, rfl⟩
      go_wp2
      exact ⟨⟨k + 1, by omega, by go_num, by rw [HSN2.out]⟩, by simp [intOf]; omega⟩
    · have hkn : k = n := by omega
      have HZ := Lib.hid (show K + (S k : Int) = K + (T : Int) by rw [hkn, HSE.out])
      clear hkn
      go_wp2
      go_ret
      exact ⟨ret_int HZ.out, rfl⟩

end Go.Proofs.Ytbffmekhhfhacaa
