/-
  Texts joined: DoG, DoH, DoI, Ms4, OkN.
-/
import Derived.Test.YtolcgopfbbmjgaaPk3
import Derived.Deep.DeepCutAuto
import Derived.Deep.CutRange
import Derived.Test.YtolcgopfbbmjgaaPk1
/-
  The reference's l07Do on a machine of its own: one operation.
-/
namespace Go.Proofs.Ytolcgopfbbmjgaa
set_option linter.unusedVariables false
set_option linter.unusedSimpArgs false
open Go.RowKit

theorem nodup_len : ∀ (n : Nat) (l : List Int), l.Nodup → (∀ x ∈ l, 0 ≤ x ∧ x < n) → l.length ≤ n
  | 0, l, _, h => by
    cases l with
    | nil => simp
    | cons a t => have := h a (by simp); omega
  | n + 1, l, hn, h => by
    have h1 := nodup_len n (l.filter fun x => decide (x ≠ (n : Int))) (hn.sublist List.filter_sublist) (fun x hx => by
      obtain ⟨h2, h3⟩ := List.mem_filter.1 hx
      have := h x h2
      simp at h3
      omega)
    have h2 := List.length_eq_countP_add_countP (fun x : Int => decide (x ≠ (n : Int))) (l := l)
    have h3 : List.countP (fun x : Int => decide ¬ (decide (x ≠ (n : Int))) = true) l ≤ 1 := by
      have e : (fun x : Int => decide ¬ (decide (x ≠ (n : Int))) = true) = (fun x : Int => x == (n : Int)) := by
        funext x
        by_cases e : x = (n : Int) <;> simp [e]
      rw [e]
      exact List.nodup_iff_count.1 hn (n : Int)
    rw [← List.countP_eq_length_filter] at h1
    omega
theorem OkP.drlen {m : Mc} (h : OkP m) : m.dr.length ≤ 300 := by
  have h1 : m.dr.Nodup := (List.nodup_append.1 (List.nodup_append.1 h.nd).2.1).2.1
  have h2 := nodup_len m.ls.length m.dr h1 (fun x hx => h.rng x (List.mem_append_right _ (List.mem_append_right _ hx)))
  have := h.ls
  omega
theorem putAll_take {l ns : List Int} {k : Nat} {y : Int} (hy : ns[k]? = some y) : putAll l (ns.take (k + 1)) = putI (putAll l (ns.take k)) y := by
  unfold putAll
  rw [List.take_add_one, hy]
  simp

theorem do125 {m : Mc} {x : Opr} (h : x.k = 1 ∨ x.k = 2 ∨ x.k = 5) : doCode m x = fmCode m x ∧ doTo m x = fmTo m x := by unfold doCode doTo; rw [if_pos h, if_pos h]; exact ⟨rfl, rfl⟩
theorem do3 {m : Mc} {x : Opr} (h : x.k = 3) : doCode m x = (if carOk m x = false then 9 else 0) ∧ doTo m x = carTo m x := by unfold doCode doTo; simp [h]
theorem do4 {m : Mc} {x : Opr} (h : x.k = 4) : doCode m x = mvCode m x ∧ doTo m x = mvTo m x := by unfold doCode doTo; simp [h]
theorem do6 {m : Mc} {x : Opr} (h : x.k = 6) : doCode m x = (if (onL m x.f).length = 0 then 7 else 0) ∧ doTo m x = setL { m with dr := putAll m.dr (onL m x.f) } x.f [] := by unfold doCode doTo; simp [h]
theorem do7 {m : Mc} {x : Opr} (h : x.k = 7) : doCode m x = 0 ∧ doTo m x = { m with rk := x.r } := by unfold doCode doTo; simp [h]
theorem do89 {m : Mc} {x : Opr} (h : x.k = 8 ∨ x.k = 9) : doCode m x = inC m x ∧ doTo m x = inM m x := by rcases h with h | h <;> (unfold doCode doTo inC inM; simp [h])
theorem DidC.of {w0 w : World} {S0 : Nat → Spot} {B g : Nat} {c : Int} {m : Mc} {e : Ending} (h : DidC w0 S0 B g c m e w) {c' : Int} {m' : Mc} (hc : c' = c) (hm : m' = m) : DidC w0 S0 B g c' m' e w := by rw [hc, hm]; exact h

@[go_sem] def ldDo : Oper := { dst := some 53, op := Op.load 39 (Operand.tmp 52), type := 39, pos := "l07_machine.go:334", after := #[{ on := 3, ground := Ground.data }], guard := none }
set_option maxHeartbeats 4000000 in
set_option maxRecDepth 100000 in
theorem l07Do_any {w : World} {B g : Nat} {m : Mc} {S : Nat → Spot} (h : MSt w B g m S) (hB : B ≤ w.heap.size) (x : Opr) (b o : Nat) (ho : OpAt w b o x) (hnb : ¬ blk S b) (ok : okM m = true) (hop : okOpW m.wd x = true) :
    Calls Try.prog 32 #[.pointer (some ⟨g, 0, none⟩), .pointer (some ⟨b, o, none⟩)] w (DidC w S B g (doCode m x) (doTo m x)) := by
  obtain ⟨i0, hi, hz0, hz1, hz2⟩ := info_parts info_int
  have hok := okM_iff.1 ok
  obtain ⟨h0, hfw, htw⟩ := okOpW_iff.1 hop
  have hwd := hok.wd
  obtain ⟨o0, o1, o2, o3, o4, o5, o6, o7⟩ := ho.eight
  have hbw : b < w.heap.size := block_lt_of_cell o0
  have HO := Lib.hid ho
  have HNB := Lib.hid hnb
  have HM := Lib.hid h
  have HOK := Lib.hid hok
  have hkinds := okOp_kinds h0
  clear h ho hnb ok hop h0
  rcases hkinds with ⟨hk, hd, hf, c1, c4, htb, hta, hr⟩ | ⟨hk, hf, ht, hne, hd, hcc, hr⟩ | ⟨hk, hf, ht, hne, hd, c1, c4, hr⟩ | ⟨hk, hf, hd, htb, hta, hcc, hr⟩ | ⟨hk, hr1, hr2, _⟩ | ⟨hk, hd, c1, c4, _⟩ | ⟨hk, c1, c4, _⟩
  · obtain ⟨hfb, hf0, hf1⟩ := ndB_iff.1 hf
    have hn : ndIn m x.f := hok.need hfb hf0 hfw
    by_cases h3 : x.k = 3
    · have HQ := Lib.hid (l07Carry_any HM.out x b o HO.out HNB.out ⟨c1, c4⟩ hok.cs ⟨hf0, hf1⟩ hok.rk)
      obtain ⟨e1, e2⟩ := do3 (m := m) h3
      rw [e1, e2]
      rw [h3] at o0
      clear hd hf hfb hk e1 e2 htb hta hr
      cases hco : carOk m x
      · have HC := Lib.hid hco
        rw [if_pos rfl]
        clear hco
        go_enter Try.func32, Try.ntmps32
        go_wp2_with fail
        refine (HQ.out).mono ?_
        rintro e w1 ⟨rfl, S1, hm1, hv1⟩
        rw [HC.out]
        have HV1 := Lib.hid hv1
        clear hm1 hv1
        go_wp2
        go_ret
        exact DidC.bad HV1.out rfl (by omega)
      · have HC := Lib.hid hco
        rw [if_neg (by decide)]
        clear hco
        go_enter Try.func32, Try.ntmps32
        go_wp2_with fail
        refine (HQ.out).mono ?_
        rintro e w1 ⟨rfl, S1, hm1, hv1⟩
        rw [HC.out]
        rw [carIf_yes HC.out] at hm1
        have HV1 := Lib.hid hv1
        have HM1 := Lib.hid hm1
        clear hm1 hv1
        go_wp2
        go_ret
        exact ⟨rfl, S1, HV1.out, fun _ => HM1.out⟩
    · have hk' : x.k = 1 ∨ x.k = 2 ∨ x.k = 5 := by omega
      have HQ := Lib.hid (l07Form_any HM.out hB x b o HO.out HNB.out hok hk' ⟨c1, c4⟩ hn hf1 (fun e => by omega))
      obtain ⟨e1, e2⟩ := do125 (m := m) hk'
      rw [e1, e2]
      have hk12 : x.k = 1 ∨ x.k = 2 := by omega
      clear hd hf hfb hk e1 e2 htb hta hr hk' h3
      rcases hk12 with hk | hk <;> rw [hk] at o0
      all_goals
        go_enter Try.func32, Try.ntmps32
        go_wp2_with fail
        refine (HQ.out).mono ?_
        rintro e w1 ⟨rfl, hd⟩
        have HD := Lib.hid hd
        clear hd
        go_wp2
        go_ret
        exact ⟨rfl, HD.out⟩
  · obtain ⟨hfb, hf0, hf1⟩ := ndB_iff.1 hf
    obtain ⟨htb, ht0, ht1⟩ := ndB_iff.1 ht
    have HQ := Lib.hid (l07Move_any HM.out hB x b o HO.out HNB.out (hok.need hfb hf0 hfw) (hok.need htb ht0 htw) hne hok hf1 ht1)
    obtain ⟨e1, e2⟩ := do4 (m := m) hk
    rw [e1, e2]
    rw [hk] at o0
    clear hd hf hfb hk e1 e2 htb hr hne ht hcc
    go_enter Try.func32, Try.ntmps32
    go_wp2_with fail
    refine (HQ.out).mono ?_
    rintro e w1 ⟨rfl, hd⟩
    have HD := Lib.hid hd
    clear hd
    go_wp2
    go_ret
    exact ⟨rfl, HD.out⟩
  · obtain ⟨hfb, hf0, hf1⟩ := ndB_iff.1 hf
    obtain ⟨htb, ht0, ht1⟩ := ndB_iff.1 ht
    have HQ := Lib.hid (l07Form_any HM.out hB x b o HO.out HNB.out hok (.inr (.inr hk)) ⟨c1, c4⟩ (hok.need hfb hf0 hfw) hf1 (fun _ => ⟨hok.need htb ht0 htw, hne, ht1⟩))
    obtain ⟨e1, e2⟩ := do125 (m := m) (.inr (.inr hk))
    rw [e1, e2]
    rw [hk] at o0
    clear hd hf hfb hk e1 e2 htb hr hne ht
    go_enter Try.func32, Try.ntmps32
    go_wp2_with fail
    refine (HQ.out).mono ?_
    rintro e w1 ⟨rfl, hd⟩
    have HD := Lib.hid hd
    clear hd
    go_wp2
    go_ret
    exact ⟨rfl, HD.out⟩
  · obtain ⟨hfb, hf0, hf1⟩ := ndB_iff.1 hf
    have hn : ndIn m x.f := hok.need hfb hf0 hfw
    obtain ⟨e1, e2⟩ := do6 (m := m) hk
    rw [e1, e2]
    rw [hk] at o0
    have HF := Lib.hid hn
    have HQ := Lib.hid (l07On_any HM.out x.f hn)
    have hl4 := hok.on4 x.f
    have hdl := hok.drlen
    clear hk e1 e2 hd hf hn hfb htb hta hcc hr
    by_cases h0 : (onL m x.f).length = 0
    · rw [if_pos h0]
      have h0' : (((onL m x.f).length : Int) == 0) = true := by rw [h0]; rfl
      clear h0
      go_enter Try.func32, Try.ntmps32
      go_wp2_with fail
      refine (HQ.out).mono ?_
      rintro e w1 ⟨rfl, hb1⟩
      obtain ⟨-, ⟨Af, cf, hvf, hcf⟩, -⟩ := HM.out.onR HF.out
      rw [hvf]
      have HV1 := Lib.hid (Mv.of_below (S := S) hb1)
      clear hvf hb1
      go_wp2
      go_ret
      exact DidC.bad HV1.out rfl (by omega)
    · rw [if_neg h0]
      have h0' : (((onL m x.f).length : Int) == 0) = false := by simpa using h0
      clear h0
      go_enter Try.func32, Try.ntmps32
      go_wp2_with fail
      refine (HQ.out).mono ?_
      rintro e w1 ⟨rfl, hb1⟩
      obtain ⟨-, ⟨Af, cf, hvf, hcf⟩, -⟩ := HM.out.onR HF.out
      rw [hvf]
      have HVF := Lib.hid hvf
      have HM1 := Lib.hid (HM.out.below hb1)
      have HV1 := Lib.hid (Mv.of_below (S := S) hb1)
      have hB1 : B ≤ w1.heap.size := Nat.le_trans hB hb1.size
      generalize hN : (onL m x.f).length = N at *
      have HN := Lib.hid hN
      have hi6 : iN x.f ≠ 0 ∧ iN x.f ≠ 5 := by unfold iN iF iB; split <;> omega
      clear hvf hb1 o0 o1 o2 o3 o4 o5 o6 o7 hN HQ
      go_wp2
      go_loopw [6] (fun i wr => ∃ (k : Nat) (Sk : Nat → Spot), k ≤ N ∧ i = .int .i64 k ∧ Hid (MSt wr B g { m with dr := putAll m.dr ((onL m x.f).take k) } Sk) ∧ Hid (Mv w S wr Sk) ∧ Hid (Sk (iN x.f) = S (iN x.f)) ∧ (putAll m.dr ((onL m x.f).take k)).length ≤ 300 + k) (fun i _ => N - (intOf i).toNat)
      case atStart => exact ⟨0, S, Nat.zero_le _, rfl, HM1.out, HV1.out, rfl, by simpa [putAll] using hdl⟩
      case round =>
        rename_i wr
        obtain ⟨k, Sk, hkN, rfl, HMk, HVk, HSk, hlen⟩ := hrel
        by_cases hlt : k < N
        · have hrow : wr.ownsRow B 2 1 (.slice Af N cf) N (vI (onL m x.f)) := by
            have h1 := (HMk.out.onR (n := x.f) HF.out).2.2
            rw [show onL { m with dr := putAll m.dr ((onL m x.f).take k) } x.f = onL m x.f from rfl, HSk.out, HVF.out, HN.out] at h1
            exact h1
          have hky : (onL m x.f)[k]? = some ((onL m x.f)[k]'(by have := HN.out; omega)) := List.getElem?_eq_getElem _
          generalize (onL m x.f)[k]'(by have := HN.out; omega) = y at hky
          obtain ⟨bb, cp, hvs, hbB, hbw2, hNc, hob⟩ := row_slice hrow (by omega)
          injection hvs with e1 e2 e3
          subst e1 e3
          have hcy := (own_cellx hrow (i := k) (u := .int .i64 y) (by show (List.map _ _)[k]? = _; rw [List.getElem?_map, hky]; rfl)).1
          have HP := Lib.hid (putAll_take (l := m.dr) hky)
          obtain ⟨A6, c6, hv6⟩ : ∃ A c, (Sk 5).v = .slice A (putAll m.dr ((onL m x.f).take k)).length c := by
            have h1 := spI_own (HMk.out.sp.own 5) HMk.out.dr
            obtain ⟨A, c, h2, -⟩ := (OwC.of_own h1).cells
            exact ⟨A, c, h2⟩
          have x6 : wr.cell? ⟨g, 6, none⟩ = some (.slice A6 (putAll m.dr ((onL m x.f).take k)).length c6) := by rw [← hv6]; exact HMk.out.cells.seven.2.2.2.2.2.2
          have hrd6 := (spI_rd (HMk.out.sp.own 5) HMk.out.dr).1
          have HQP := Lib.hid (l00Put_any _ (putAll m.dr ((onL m x.f).take k)) y wr.drew hrd6 (by omega))
          rw [hv6] at HQP
          have hgw := HMk.out.size.1
          have xf6 := HMk.out.frozen 6
          have hgbb : g ≠ bb := fun e => HMk.out.sp.dis (i := iN x.f) (j := 0) hi6.1 (by rw [HSk.out, HVF.out, hob, e]) HMk.out.gbox
          have hfgb := far_cell hgbb
          clear hrow hrd6 hv6 hob hNc
          go_wp2
          rw [show ({ dst := some 53, op := Op.load 39 (Operand.tmp 52), type := 39, pos := "l07_machine.go:334", after := #[{ on := 3, ground := Ground.data }], guard := none } : Oper) = ldDo from rfl]
          go_region_held3 (fun w' => w'.cell? ⟨bb, k, none⟩ = some (.int .i64 y))
            (first | exact hcy | exact q1 | (rw [hfgb]; exact q1) | go_keep)
            (first
              | (go_at_call 55; refine (HQP.out).mono ?_; rintro e w2 ⟨v2, rfl, hown2, hb2⟩; have hb2' : Below wr.heap.size wr w2 := (Below.refl wr.heap.size wr).drew.trans hb2; obtain ⟨A2, c2, rfl⟩ : ∃ A c, v2 = .slice A (putI (putAll m.dr ((onL m x.f).take k)) y).length c := (by (obtain ⟨A, c, h1, -⟩ := (OwC.of_own hown2).cells; exact ⟨A, c, h1⟩)); have q1 : w2.cell? ⟨bb, k, none⟩ = some (.int .i64 y) := (hb2'.cell (p := ⟨bb, k, none⟩) hbw2).trans hcy; have t6 : w2.cell? ⟨g, 6, none⟩ = _ := (hb2'.cell (p := ⟨g, 6, none⟩) hgw).trans x6; have tf6 : w2.frozen? ⟨g, 6, none⟩ = false := (hb2'.frozen (p := ⟨g, 6, none⟩) hgw).trans xf6))
          have hm2 := HMk.out.below hb2'
          have hnew : ∀ q, (Value.slice A2 (putI (putAll m.dr ((onL m x.f).take k)) y).length c2).ownBlock = some q → wr.heap.size ≤ q := fun q hq => (World.ownsRow.lt hown2 q hq).1
          have hBr : B ≤ wr.heap.size := Nat.le_trans hB HVk.out.size
          have hsp := hm2.sp.putX 5 (own_base hown2 hBr) (fun q hq e => by have := (HMk.out.sp.ge e).2; have := hnew q hq; omega)
          have hE := hm2.setDr hsp
          have e0 : putS Sk 5 (spI (Value.slice A2 (putI (putAll m.dr ((onL m x.f).take k)) y).length c2) (putI (putAll m.dr ((onL m x.f).take k)) y)) 0 = Sk 0 := putS_ne (by omega)
          have hv2 := ((HVk.out.trans (Mv.of_below hb2')).put 5 (spI (Value.slice A2 (putI (putAll m.dr ((onL m x.f).take k)) y).length c2) (putI (putAll m.dr ((onL m x.f).take k)) y)) (fun q hq => .inr (Nat.le_trans HVk.out.size (hnew q hq)))).setCell (p := 0) (g := g) (i := 6) (by rw [e0]; exact HMk.out.gbox) (Value.slice A2 (putI (putAll m.dr ((onL m x.f).take k)) y).length c2) ((Sk 0).xs.set 6 (Value.slice A2 (putI (putAll m.dr ((onL m x.f).take k)) y).length c2))
          rw [e0] at hv2
          have hpl := putI_len (putAll m.dr ((onL m x.f).take k)) y
          have HE := Lib.hid hE
          have HV2 := Lib.hid hv2
          clear hE hv2 hsp e0 hm2 hnew hown2 hb2 hb2' q1 t6 tf6 hcy
          go_wp2
          refine ⟨⟨k + 1, _, by omega, by go_num, ?_, HV2.out, ?_, ?_⟩, by simp [intOf]; omega⟩
          · show MSt _ B g { m with dr := putAll m.dr ((onL m x.f).take (k + 1)) } _
            rw [HP.out]
            exact HE.out
          · show putS (putS _ _ _) _ _ (iN x.f) = _
            rw [putS_ne hi6.1, putS_ne hi6.2]
            exact HSk.out
          · rw [HP.out]; omega
        · have hkk : (onL m x.f).take k = onL m x.f := List.take_of_length_le (by have := HN.out; omega)
          rw [hkk] at HMk
          have hOr : OpAt wr b o x := HVk.out.only.cells HNB.out HO.out
          obtain ⟨-, -, t2, t3, -, -, -, -⟩ := hOr.eight
          have HQS := Lib.hid (set_lit0 HMk.out HVk.out (Nat.le_trans hB HVk.out.size) x.f (show ndIn { m with dr := putAll m.dr (onL m x.f) } x.f from HF.out))
          clear hkk hOr hlen
          go_wp2_with fail
          refine (HQS.out).mono ?_
          rintro e w7 ⟨rfl, S7, hm7, hv7⟩
          have HFIN : Hid (DidC w S B g 0 (setL { m with dr := putAll m.dr (onL m x.f) } x.f []) (.returned (.int .i64 0)) w7) := ⟨rfl, S7, hv7, fun _ => hm7⟩
          clear hm7 hv7
          go_wp2
          go_ret
          exact HFIN.out
  · obtain ⟨e1, e2⟩ := do7 (m := m) hk
    rw [e1, e2]
    rw [hk] at o0
    have x1 : w.cell? ⟨g, 1, none⟩ = some (.int .i64 m.rk) := HM.out.cells.seven.2.1
    have xf := HM.out.frozen 1
    clear hk e1 e2
    go_enter Try.func32, Try.ntmps32
    go_wp2
    go_ret
    exact ⟨rfl, _, (Mv.refl w S).setCell HM.out.gbox _ _, fun _ => HM.out.setRk⟩
  · have HQ := Lib.hid (l07In_any HM.out x b o HO.out HNB.out ⟨c1, c4⟩ hok.cs (.inl hk) hwd)
    obtain ⟨e1, e2⟩ := do89 (m := m) (.inl hk)
    rw [e1, e2]
    rw [hk] at o0
    clear hk e1 e2 hd
    go_enter Try.func32, Try.ntmps32
    go_wp2_with fail
    refine (HQ.out).mono ?_
    rintro e w1 ⟨rfl, hd⟩
    have HD := Lib.hid hd
    clear hd
    go_wp2
    go_ret
    exact ⟨rfl, HD.out⟩
  · have HQ := Lib.hid (l07In_any HM.out x b o HO.out HNB.out ⟨c1, c4⟩ hok.cs (.inr hk) hwd)
    obtain ⟨e1, e2⟩ := do89 (m := m) (.inr hk)
    rw [e1, e2]
    rw [hk] at o0
    clear hk e1 e2
    go_enter Try.func32, Try.ntmps32
    go_wp2_with fail
    refine (HQ.out).mono ?_
    rintro e w1 ⟨rfl, hd⟩
    have HD := Lib.hid hd
    clear hd
    go_wp2
    go_ret
    exact ⟨rfl, HD.out⟩

end Go.Proofs.Ytolcgopfbbmjgaa

/-
  A machine of a call's own, as it is made: l07New.
-/
namespace Go.Proofs.Ytolcgopfbbmjgaa
set_option linter.unusedVariables false
set_option linter.unusedSimpArgs false
open Go.RowKit

abbrev mcV (wd rk : Int) (F G C L D : Value) : Array Value := #[.int .i64 wd, .int .i64 rk, F, G, C, L, D]
/-- The first rows. -/
theorem MSt.init {w : World} {B g : Nat} {vc vd : Value} {cs : List Car} {dr : List Int} {wd rk : Int} (hb : w.ownsRow B 41 7 (.slice (some ⟨g, 0, none⟩) 1 1) 1 [.int .i64 wd, .int .i64 rk, .slice none 0 0, .slice none 0 0, vc, .slice none 0 0, vd])
    (hc : w.ownsRow B 74 2 vc cs.length (vS Car.cells cs)) (hd : w.ownsRow B 2 1 vd dr.length (vI dr)) (h1 : vc.ownBlock ≠ some g) (h2 : vd.ownBlock ≠ some g) (h3 : ∀ q, vc.ownBlock = some q → vd.ownBlock ≠ some q) :
    ∃ S, MSt w B g ⟨wd, rk, [], [], cs, [], dr⟩ S := by
  have s0 := (((SpotsT.none_ w B 2 1).putNone 1 39 1).putNone 2 39 1).putNone 4 76 6
  have hnone : ∀ j q, (putS (putS (putS (fun _ => Spot.none_ 2 1) 1 (Spot.none_ 39 1)) 2 (Spot.none_ 39 1)) 4 (Spot.none_ 76 6) j).v.ownBlock ≠ some q := fun j q e => by
    unfold putS at e
    split at e
    · cases e
    split at e
    · cases e
    split at e
    · cases e
    cases e
  have s1 := s0.put 3 ⟨74, 2, vc, cs.length, vS Car.cells cs⟩ hc (fun q hq => .inr fun j _ => hnone j q)
  have s2 := s1.put 5 (spI vd dr) hd (fun q hq => .inr fun j hj => by
    by_cases e : j = 3
    · rw [e, putS_same]; exact fun e => h3 q e hq
    · rw [putS_ne e]; exact hnone j q)
  have s3 := s2.put 0 ⟨41, 7, .slice (some ⟨g, 0, none⟩) 1 1, 1, [.int .i64 wd, .int .i64 rk, .slice none 0 0, .slice none 0 0, vc, .slice none 0 0, vd]⟩ hb (fun q hq => .inr fun j hj => by
    have hq' : g = q := by injection hq
    subst hq'
    by_cases e : j = 5
    · rw [e, putS_same]; exact h2
    · rw [putS_ne e]
      by_cases e : j = 3
      · rw [e, putS_same]; exact h1
      · rw [putS_ne e]; exact hnone j g)
  refine ⟨_, s3, rfl, ⟨[], rfl, fun k hk => absurd hk (by simp)⟩, ⟨[], rfl, fun k hk => absurd hk (by simp)⟩, rfl, ⟨[], rfl, fun k x hk => by simp at hk⟩, rfl, fun k l hk => by simp at hk, fun k l hk => by simp at hk, fun k x hk => by simp at hk⟩
theorem SpotsT.base {w : World} {B B' : Nat} {S : Nat → Spot} (h : SpotsT w B' S) (hB : B ≤ B') : SpotsT w B S := fun N => ⟨fun j hj => own_base ((h N).own j hj) hB, (h N).dis⟩
theorem MSt.base {w : World} {B B' g : Nat} {m : Mc} {S : Nat → Spot} (h : MSt w B' g m S) (hB : B ≤ B') : MSt w B g m S := ⟨h.sp.base hB, h.box, h.fr, h.bk, h.cs, h.ls, h.dr, h.fl, h.bl, h.pl⟩
/-- A machine that was made: by value, its rows and the box in which it was built. -/
def MadeM (w : World) (m : Mc) (e : Ending) (w' : World) : Prop :=
  ∃ (S : Nat → Spot) (g : Nat), e = .returned (.agg (mcV m.wd m.rk (S 1).v (S 2).v (S 3).v (S 4).v (S 5).v)) ∧ MSt w' w.heap.size g m S ∧ Below w.heap.size w w'
/-- Needles more, with all that stands. -/
theorem MSt.addFm {w1 w2 : World} {B g : Nat} {m : Mc} {S : Nat → Spot} {l : List Int} {vp vl : Value} {xs : List Value} (h : MSt w1 B g m S) (e1 : S 1 = ⟨39, 1, (S 1).v, m.fr.length, xs⟩)
    (hp : w1.ownsRow B 2 1 vp l.length (vI l)) (hnew : ∀ k, vp.ownBlock = some k → ¬ blk S k)
    (hown : w2.ownsRow B 39 1 vl (m.fr.length + 1) (xs ++ [vp])) (hg : w1.grownBy w2 (S 1).v.ownBlock) (hat : vl.ownBlock = (S 1).v.ownBlock ∨ vl.ownBlock = some w1.heap.size) :
    ∃ S', MSt (w2.setCell ⟨g, 2, none⟩ vl) B g { m with fr := m.fr ++ [l] } S' := by
  have hne : iF m.fr.length ≠ 1 := by unfold iF; omega
  have hsp1 := h.sp.putX (iF m.fr.length) hp hnew
  have e1' : putS S (iF m.fr.length) (spI vp l) 1 = S 1 := putS_ne (fun e => hne e.symm)
  have hsp2 := hsp1.app (w' := w2) 1 ⟨39, 1, vl, m.fr.length + 1, xs ++ [vp]⟩ hown (by rw [e1']; exact hg) (by rw [e1']; exact hat)
  exact ⟨_, h.addF e1 rfl hsp2⟩
theorem MSt.addBm {w1 w2 : World} {B g : Nat} {m : Mc} {S : Nat → Spot} {l : List Int} {vp vl : Value} {xs : List Value} (h : MSt w1 B g m S) (e1 : S 2 = ⟨39, 1, (S 2).v, m.bk.length, xs⟩)
    (hp : w1.ownsRow B 2 1 vp l.length (vI l)) (hnew : ∀ k, vp.ownBlock = some k → ¬ blk S k)
    (hown : w2.ownsRow B 39 1 vl (m.bk.length + 1) (xs ++ [vp])) (hg : w1.grownBy w2 (S 2).v.ownBlock) (hat : vl.ownBlock = (S 2).v.ownBlock ∨ vl.ownBlock = some w1.heap.size) :
    ∃ S', MSt (w2.setCell ⟨g, 3, none⟩ vl) B g { m with bk := m.bk ++ [l] } S' := by
  have hne : iB m.bk.length ≠ 2 := by unfold iB; omega
  have hsp1 := h.sp.putX (iB m.bk.length) hp hnew
  have e1' : putS S (iB m.bk.length) (spI vp l) 2 = S 2 := putS_ne (fun e => hne e.symm)
  have hsp2 := hsp1.app (w' := w2) 2 ⟨39, 1, vl, m.bk.length + 1, xs ++ [vp]⟩ hown (by rw [e1']; exact hg) (by rw [e1']; exact hat)
  exact ⟨_, h.addB e1 rfl hsp2⟩
theorem MSt.rowF {w : World} {B g : Nat} {m : Mc} {S : Nat → Spot} (h : MSt w B g m S) : ∃ xs A c, S 1 = ⟨39, 1, (S 1).v, m.fr.length, xs⟩ ∧ w.ownsRow B 39 1 (S 1).v m.fr.length xs ∧ (S 1).v = .slice A m.fr.length c ∧ w.cell? ⟨g, 2, none⟩ = some (.slice A m.fr.length c) := by
  obtain ⟨xs, e, _⟩ := h.fr
  obtain ⟨A, c, h1, -⟩ := (OwC.of_own (h.owned e)).cells
  exact ⟨xs, A, c, e, h.owned e, h1, by rw [← h1]; exact h.cells.seven.2.2.1⟩
theorem MSt.rowB {w : World} {B g : Nat} {m : Mc} {S : Nat → Spot} (h : MSt w B g m S) : ∃ xs A c, S 2 = ⟨39, 1, (S 2).v, m.bk.length, xs⟩ ∧ w.ownsRow B 39 1 (S 2).v m.bk.length xs ∧ (S 2).v = .slice A m.bk.length c ∧ w.cell? ⟨g, 3, none⟩ = some (.slice A m.bk.length c) := by
  obtain ⟨xs, e, _⟩ := h.bk
  obtain ⟨A, c, h1, -⟩ := (OwC.of_own (h.owned e)).cells
  exact ⟨xs, A, c, e, h.owned e, h1, by rw [← h1]; exact h.cells.seven.2.2.2.1⟩

/-- All headers are slices. -/
theorem MSt.slices {w : World} {B g : Nat} {m : Mc} {S : Nat → Spot} (h : MSt w B g m S) : ∃ A1 c1 A2 c2 A3 c3 A4 c4 A5 c5, (S 1).v = .slice A1 m.fr.length c1 ∧ (S 2).v = .slice A2 m.bk.length c2 ∧ (S 3).v = .slice A3 m.cs.length c3 ∧ (S 4).v = .slice A4 m.ls.length c4 ∧ (S 5).v = .slice A5 m.dr.length c5 := by
  obtain ⟨xs1, A1, c1, -, -, h1, -⟩ := h.rowF
  obtain ⟨xs2, A2, c2, -, -, h2, -⟩ := h.rowB
  obtain ⟨A3, c3, h3, -⟩ := (OwC.of_own (h.owned h.cs)).cells
  obtain ⟨xs4, -, h4⟩ := h.rowL
  obtain ⟨A4, c4, h5, -⟩ := (OwC.of_own h4).cells
  obtain ⟨A5, c5, h6, -⟩ := (OwC.of_own (spI_own (h.sp.own 5) h.dr)).cells
  exact ⟨A1, c1, A2, c2, A3, c3, A4, c4, A5, c5, h1, h2, h3, h5, h6⟩
theorem set7_heap (W : World) (b : Nat) (u0 u1 u2 u3 u4 u5 u6 : Value) (q : Nat) (hq : q ≠ b) : (((((((W.setCell ⟨b, 0, none⟩ u0).setCell ⟨b, 1, none⟩ u1).setCell ⟨b, 2, none⟩ u2).setCell ⟨b, 3, none⟩ u3).setCell ⟨b, 4, none⟩ u4).setCell ⟨b, 5, none⟩ u5).setCell ⟨b, 6, none⟩ u6).heap[q]? = W.heap[q]? := by
  rw [Below.heap_setCell _ _ _ _ (by exact hq), Below.heap_setCell _ _ _ _ (by exact hq), Below.heap_setCell _ _ _ _ (by exact hq), Below.heap_setCell _ _ _ _ (by exact hq), Below.heap_setCell _ _ _ _ (by exact hq), Below.heap_setCell _ _ _ _ (by exact hq), Below.heap_setCell _ _ _ _ (by exact hq)]
/-- A machine without loops. -/
def newMc (n : Int) : Mc := ⟨n, 0, List.replicate n.toNat [], List.replicate n.toNat [], List.replicate 4 ⟨false, 0⟩, [], []⟩

set_option maxHeartbeats 4000000 in
set_option maxRecDepth 100000 in
theorem l07New_any (n : Int) (h0 : 1 ≤ n) (h1 : n ≤ 24) (w : World) : Calls Try.prog 30 #[.int .i64 n] w (MadeM w (newMc n)) := by
  obtain ⟨i0, hi, hz0, hz1, hz2⟩ := info_parts info_sl
  have hmk : ∀ W : World, (Instr.makeSlice 37 (.int .i64 4) (.int .i64 4)).run Try.prog W = .ok (.slice (some ⟨W.heap.size, 0, none⟩) 4 4) (W.alloc (.cells (madeCells #[.bool false, .int .i64 0] 8) 74)) := fun W => run_make_rowsN (P := Try.prog) 37 74 #[.bool false, .int .i64 0] 2 16 Try.underlying37 info_car .i64 .i64 4 (by omega) (by omega) W
  go_enter Try.func30, Try.ntmps30
  go_wp2
  obtain ⟨N, rfl⟩ : ∃ N : Nat, n = (N : Int) := ⟨n.toNat, by omega⟩
  have hN24 : N ≤ 24 := by omega
  have hinit : ∃ S, MSt (((w.alloc (.cells (mcV 0 0 (.slice none 0 0) (.slice none 0 0) (.slice none 0 0) (.slice none 0 0) (.slice none 0 0)) 41)).alloc (.cells (madeCells #[.bool false, .int .i64 0] 8) 74)).alloc (.cells (mcV (N : Int) 0 (.slice none 0 0) (.slice none 0 0) (.slice (some ⟨w.heap.size + 1, 0, none⟩) 4 4) (.slice none 0 0) (.slice none 0 0)) 41)) (w.heap.size + 1) (w.heap.size + 1 + 1) ⟨N, 0, [], [], List.replicate 4 ⟨false, 0⟩, [], []⟩ S := by
    have hW1 := World.ownsRow_lit (base := w.heap.size + 1) (e := 74) (size := 2) (w.alloc (.cells (mcV 0 0 (.slice none 0 0) (.slice none 0 0) (.slice none 0 0) (.slice none 0 0) (.slice none 0 0)) 41)) (madeCells #[.bool false, .int .i64 0] 8) 4 (by simp) (by unfold maxLen; omega) (size_madeCells _ _)
    rw [show (madeCells #[.bool false, .int .i64 0] 8).toList = vS Car.cells (List.replicate 4 ⟨false, 0⟩) by kernel_rfl] at hW1
    have hW2 := World.ownsRow_lit (base := w.heap.size + 1) (e := 41) (size := 7) ((w.alloc (.cells (mcV 0 0 (.slice none 0 0) (.slice none 0 0) (.slice none 0 0) (.slice none 0 0) (.slice none 0 0)) 41)).alloc (.cells (madeCells #[.bool false, .int .i64 0] 8) 74)) (mcV (N : Int) 0 (.slice none 0 0) (.slice none 0 0) (.slice (some ⟨w.heap.size + 1, 0, none⟩) 4 4) (.slice none 0 0) (.slice none 0 0)) 1 (by simp) (by unfold maxLen; omega) rfl
    have z1 : (w.alloc (.cells (mcV 0 0 (.slice none 0 0) (.slice none 0 0) (.slice none 0 0) (.slice none 0 0) (.slice none 0 0)) 41)).heap.size = w.heap.size + 1 := by simp
    have z2 : ((w.alloc (.cells (mcV 0 0 (.slice none 0 0) (.slice none 0 0) (.slice none 0 0) (.slice none 0 0) (.slice none 0 0)) 41)).alloc (.cells (madeCells #[.bool false, .int .i64 0] 8) 74)).heap.size = w.heap.size + 1 + 1 := by simp
    rw [z1] at hW1
    rw [z2] at hW2
    refine MSt.init hW2 (hW1.alloc _) (World.ownsRow_nil _ _ _ _) ?_ ?_ ?_
    · intro e; injection e with e; have e' : w.heap.size + 1 = w.heap.size + 1 + 1 := e; omega
    · intro e; cases e
    · intro q _ e; cases e
  obtain ⟨S0, hS0⟩ := hinit
  have HS0 := Lib.hid hS0
  have HB0 := Lib.hid (show Below (w.heap.size + 1) (w.alloc (.cells (mcV 0 0 (.slice none 0 0) (.slice none 0 0) (.slice none 0 0) (.slice none 0 0) (.slice none 0 0)) 41)) (((w.alloc (.cells (mcV 0 0 (.slice none 0 0) (.slice none 0 0) (.slice none 0 0) (.slice none 0 0) (.slice none 0 0)) 41)).alloc (.cells (madeCells #[.bool false, .int .i64 0] 8) 74)).alloc (.cells (mcV (N : Int) 0 (.slice none 0 0) (.slice none 0 0) (.slice (some ⟨w.heap.size + 1, 0, none⟩) 4 4) (.slice none 0 0) (.slice none 0 0)) 41)) from ((Below.refl _ _).alloc (by simp) _).alloc (by simp) _)
  clear hS0 hmk
  go_loopw [4] (fun i wr => ∃ (k : Nat) (Sk : Nat → Spot) (wq : World), wq = wr ∧ k ≤ N ∧ i = .int .i64 k ∧ Hid (MSt wr (w.heap.size + 1) (w.heap.size + 1 + 1) ⟨N, 0, List.replicate k [], List.replicate k [], List.replicate 4 ⟨false, 0⟩, [], []⟩ Sk) ∧ Hid (Below (w.heap.size + 1) (w.alloc (.cells (mcV 0 0 (.slice none 0 0) (.slice none 0 0) (.slice none 0 0) (.slice none 0 0) (.slice none 0 0)) 41)) wr)) (fun i _ => N - (intOf i).toNat)
  case atStart => exact ⟨0, S0, _, rfl, Nat.zero_le _, rfl, HS0.out, HB0.out⟩
  case round =>
    obtain ⟨k, Sk, wq, hwq, hk, rfl, HM, HB⟩ := hrel
    subst hwq
    by_cases hlt : k < N
    · obtain ⟨xsa, Aa, ca, ea, howa, hva, hca⟩ := HM.out.rowF
      have hgwa := HM.out.size.1
      have hBza : w.heap.size + 1 ≤ wq.heap.size := by have := HB.out.size; simpa using this
      rw [hva] at howa
      have hfla : (List.replicate k ([] : List Int)).length = k := by simp
      rw [hfla] at howa hva hca
      have HEa := Lib.hid ea
      have HOWa := Lib.hid howa
      have HVa := Lib.hid hva
      have hnga : (Value.slice Aa k ca).ownBlock ≠ some (w.heap.size + 1 + 1) := fun e => HM.out.sp.dis (i := 1) (j := 0) (by omega) (by rw [hva]; exact e) HM.out.gbox
      have HNGa := Lib.hid hnga
      clear ea howa hva hnga hfla
      go_wp2_with (at_builtin; refine wpList_append_own_at _ rfl _ _ 36 rfl (w.heap.size + 1) 39 i0 _ 1 24 Try.underlying36 hi hz0 hz1 hz2 rfl (by decide) _ _ _ rfl ((HOWa.out.alloc _).alloc _) ⟨_, 0, none⟩ 1 1 [.slice (some ⟨wq.heap.size, 0, none⟩) 0 0] rfl rfl (new_cells' _ _ (by simp)) (by intro u hu; simp at hu; subst hu; rfl) (by unfold maxLen; omega) (by omega) (by (try simp at hBza); simp; omega) ?_)
      intro va wa howna hgrowa _ hata
      have ta : wa.cell? ⟨w.heap.size + 1 + 1, 2, none⟩ = some (.slice Aa k ca) := (hgrowa.cell_far ⟨w.heap.size + 1 + 1, 2, none⟩ (by (try simp at hgwa); simp; omega) (Ne.symm HNGa.out)).trans ((((Below.refl wq.heap.size wq).alloc (Nat.le_refl _) _).alloc (by simp) _).cell (p := ⟨w.heap.size + 1 + 1, 2, none⟩) hgwa |>.trans hca)
      have tfa : wa.frozen? ⟨w.heap.size + 1 + 1, 2, none⟩ = false := (hgrowa.frozen_far ⟨w.heap.size + 1 + 1, 2, none⟩ (by (try simp at hgwa); simp; omega) (Ne.symm HNGa.out)).trans ((((Below.refl wq.heap.size wq).alloc (Nat.le_refl _) _).alloc (by simp) _).frozen (p := ⟨w.heap.size + 1 + 1, 2, none⟩) hgwa |>.trans (HM.out.frozen 2))
      obtain ⟨Ava, cva, rfl⟩ : ∃ A c, va = .slice A (k + 1) c := by
        obtain ⟨A, c, h1, -⟩ := (OwC.of_own howna).cells
        exact ⟨A, c, h1⟩
      have hFa : ∃ S', MSt (wa.setCell ⟨w.heap.size + 1 + 1, 2, none⟩ (.slice Ava (k + 1) cva)) (w.heap.size + 1) (w.heap.size + 1 + 1) ⟨N, 0, List.replicate k [] ++ [[]], List.replicate k [], List.replicate 4 ⟨false, 0⟩, [], []⟩ S' := by
        have hWA : Below wq.heap.size wq (wq.alloc (.cells #[] 2)) := (Below.refl _ _).alloc (Nat.le_refl _) _
        have hWB : Below wq.heap.size wq ((wq.alloc (.cells #[] 2)).alloc (.cells #[.slice (some ⟨wq.heap.size, 0, none⟩) 0 0] 39)) := hWA.alloc (by simp) _
        have ea := HEa.out
        have hfla : (List.replicate k ([] : List Int)).length = k := by simp
        have hq : ∀ q, (Value.slice (some ⟨wq.heap.size, 0, none⟩) 0 0).ownBlock = some q → wq.heap.size = q := fun q hq => by injection hq
        refine (HM.out.below hWB).addFm (l := []) ea (own_base ((lit0 wq).alloc _) hBza) (fun q hq' e => by have := (HM.out.sp.ge e).2; have := hq q hq'; omega) ?_ ?_ ?_
        · rw [hfla]; exact howna
        · rw [HVa.out]; exact hgrowa
        · rw [HVa.out]; (first | exact hata | simpa using hata)
      have HFa := Lib.hid hFa
      have HBa := Lib.hid (((HB.out.alloc hBza _).alloc (by (try simp at hBza); simp; omega) _).grown hgrowa (by (try simp at hBza); simp; omega) (fun q hq => (World.ownsRow.lt HOWa.out q hq).1) |>.setCell (p := ⟨w.heap.size + 1 + 1, 2, none⟩) (Nat.le_succ _) (.slice Ava (k + 1) cva))
      clear hFa howna hgrowa hata hca

      obtain ⟨Sx, hSx⟩ := HFa.out
      have HMx := Lib.hid hSx
      clear hSx hgwa hBza
      obtain ⟨xsb, Ab, cb, eb, howb, hvb, hcb⟩ := HMx.out.rowB
      have hgwb := HMx.out.size.1
      have hBzb : w.heap.size + 1 ≤ (wa.setCell ⟨w.heap.size + 1 + 1, 2, none⟩ (.slice Ava (k + 1) cva)).heap.size := by have := HBa.out.size; simpa using this
      rw [hvb] at howb
      have hflb : (List.replicate k ([] : List Int)).length = k := by simp
      rw [hflb] at howb hvb hcb
      have HEb := Lib.hid eb
      have HOWb := Lib.hid howb
      have HVb := Lib.hid hvb
      have hngb : (Value.slice Ab k cb).ownBlock ≠ some (w.heap.size + 1 + 1) := fun e => HMx.out.sp.dis (i := 2) (j := 0) (by omega) (by rw [hvb]; exact e) HMx.out.gbox
      have HNGb := Lib.hid hngb
      clear eb howb hvb hngb hflb
      go_wp2_with (at_builtin; refine wpList_append_own_at _ rfl _ _ 36 rfl (w.heap.size + 1) 39 i0 _ 1 24 Try.underlying36 hi hz0 hz1 hz2 rfl (by decide) _ _ _ rfl ((HOWb.out.alloc _).alloc _) ⟨_, 0, none⟩ 1 1 [.slice (some ⟨wa.heap.size, 0, none⟩) 0 0] rfl rfl (new_cells' _ _ (by simp)) (by intro u hu; simp at hu; subst hu; rfl) (by unfold maxLen; omega) (by omega) (by (try simp at hBzb); simp; omega) ?_)
      intro vb wb hownb hgrowb _ hatb
      have tb : wb.cell? ⟨w.heap.size + 1 + 1, 3, none⟩ = some (.slice Ab k cb) := (hgrowb.cell_far ⟨w.heap.size + 1 + 1, 3, none⟩ (by (try simp at hgwb); simp; omega) (Ne.symm HNGb.out)).trans ((((Below.refl (wa.setCell ⟨w.heap.size + 1 + 1, 2, none⟩ (.slice Ava (k + 1) cva)).heap.size (wa.setCell ⟨w.heap.size + 1 + 1, 2, none⟩ (.slice Ava (k + 1) cva))).alloc (Nat.le_refl _) _).alloc (by simp) _).cell (p := ⟨w.heap.size + 1 + 1, 3, none⟩) hgwb |>.trans hcb)
      have tfb : wb.frozen? ⟨w.heap.size + 1 + 1, 3, none⟩ = false := (hgrowb.frozen_far ⟨w.heap.size + 1 + 1, 3, none⟩ (by (try simp at hgwb); simp; omega) (Ne.symm HNGb.out)).trans ((((Below.refl (wa.setCell ⟨w.heap.size + 1 + 1, 2, none⟩ (.slice Ava (k + 1) cva)).heap.size (wa.setCell ⟨w.heap.size + 1 + 1, 2, none⟩ (.slice Ava (k + 1) cva))).alloc (Nat.le_refl _) _).alloc (by simp) _).frozen (p := ⟨w.heap.size + 1 + 1, 3, none⟩) hgwb |>.trans (HMx.out.frozen 3))
      obtain ⟨Avb, cvb, rfl⟩ : ∃ A c, vb = .slice A (k + 1) c := by
        obtain ⟨A, c, h1, -⟩ := (OwC.of_own hownb).cells
        exact ⟨A, c, h1⟩
      have hFb : ∃ S', MSt (wb.setCell ⟨w.heap.size + 1 + 1, 3, none⟩ (.slice Avb (k + 1) cvb)) (w.heap.size + 1) (w.heap.size + 1 + 1) ⟨N, 0, List.replicate k [] ++ [[]], List.replicate k [] ++ [[]], List.replicate 4 ⟨false, 0⟩, [], []⟩ S' := by
        have hWA : Below (wa.setCell ⟨w.heap.size + 1 + 1, 2, none⟩ (.slice Ava (k + 1) cva)).heap.size (wa.setCell ⟨w.heap.size + 1 + 1, 2, none⟩ (.slice Ava (k + 1) cva)) ((wa.setCell ⟨w.heap.size + 1 + 1, 2, none⟩ (.slice Ava (k + 1) cva)).alloc (.cells #[] 2)) := (Below.refl _ _).alloc (Nat.le_refl _) _
        have hWB : Below (wa.setCell ⟨w.heap.size + 1 + 1, 2, none⟩ (.slice Ava (k + 1) cva)).heap.size (wa.setCell ⟨w.heap.size + 1 + 1, 2, none⟩ (.slice Ava (k + 1) cva)) (((wa.setCell ⟨w.heap.size + 1 + 1, 2, none⟩ (.slice Ava (k + 1) cva)).alloc (.cells #[] 2)).alloc (.cells #[.slice (some ⟨wa.heap.size, 0, none⟩) 0 0] 39)) := hWA.alloc (by simp) _
        have eb := HEb.out
        have hflb : (List.replicate k ([] : List Int)).length = k := by simp
        have hzx : (wa.setCell ⟨w.heap.size + 1 + 1, 2, none⟩ (.slice Ava (k + 1) cva)).heap.size = wa.heap.size := by simp
        have hlx := lit0 (wa.setCell ⟨w.heap.size + 1 + 1, 2, none⟩ (.slice Ava (k + 1) cva))
        rw [hzx] at hlx
        have hq : ∀ q, (Value.slice (some ⟨wa.heap.size, 0, none⟩) 0 0).ownBlock = some q → wa.heap.size = q := fun q hq => by injection hq
        refine (HMx.out.below hWB).addBm (l := []) eb (own_base (hlx.alloc _) (by rw [← hzx]; exact hBzb)) (fun q hq' e => by have := (HMx.out.sp.ge e).2; have := hq q hq'; omega) ?_ ?_ ?_
        · rw [hflb]; exact hownb
        · rw [HVb.out]; exact hgrowb
        · rw [HVb.out]; (first | exact hatb | simpa using hatb)
      have HFb := Lib.hid hFb
      have HBb := Lib.hid (((HBa.out.alloc hBzb _).alloc (by (try simp at hBzb); simp; omega) _).grown hgrowb (by (try simp at hBzb); simp; omega) (fun q hq => (World.ownsRow.lt HOWb.out q hq).1) |>.setCell (p := ⟨w.heap.size + 1 + 1, 3, none⟩) (Nat.le_succ _) (.slice Avb (k + 1) cvb))
      clear hFb hownb hgrowb hatb hcb

      obtain ⟨Sy, hSy⟩ := HFb.out
      have HMy := Lib.hid hSy
      clear hSy
      go_wp2
      refine ⟨⟨k + 1, Sy, _, rfl, by omega, by go_num, ?_, HBb.out⟩, by simp [intOf]; omega⟩
      unfold Hid
      rw [List.replicate_succ']
      exact HMy.out
    · have hkN : k = N := by omega
      subst hkN
      obtain ⟨x0, x1, x2, x3, x4, x5, x6⟩ := HM.out.cells.seven
      have hB1 := HB.out
      have r0 : ∀ (j : Nat) (u : Value), (mcV 0 0 (.slice none 0 0) (.slice none 0 0) (.slice none 0 0) (.slice none 0 0) (.slice none 0 0)).toList[j]? = some u → wq.cell? ⟨w.heap.size, 0 + j, none⟩ = some u := fun j u hu => (HB.out.cell (p := ⟨w.heap.size, 0 + j, none⟩) (Nat.lt_succ_self _)).trans (CellsAt.of_alloc (us := (mcV 0 0 (.slice none 0 0) (.slice none 0 0) (.slice none 0 0) (.slice none 0 0) (.slice none 0 0)).toList) j u hu)
      obtain ⟨q0, q1, q2, q3, q4, q5, q6⟩ := CellsAt.seven (w := wq) (b := w.heap.size) (o := 0) r0
      have qf : ∀ i, wq.frozen? ⟨w.heap.size, i, none⟩ = false := fun i => (HB.out.frozen (p := ⟨w.heap.size, i, none⟩) (Nat.lt_succ_self _)).trans (frozen_of_row _ _ i _ _ (heap_alloc_new w _))
      obtain ⟨A1, c1, A2, c2, A3, c3, A4, c4, A5, c5, g1, g2, g3, g4, g5⟩ := HM.out.slices
      have HG := Lib.hid (And.intro g1 (And.intro g2 (And.intro g3 (And.intro g4 g5))))
      rw [g1] at x2
      rw [g2] at x3
      rw [g3] at x4
      rw [g4] at x5
      rw [g5] at x6
      clear r0 hB1 g1 g2 g3 g4 g5
      have hgr : (w.heap.size + 1 + 1) ≠ w.heap.size := by omega
      go_wp2
      refine bodyPost_ret (v := .agg (mcV (k : Int) 0 (.slice A1 k c1) (.slice A2 k c2) (.slice A3 4 c3) (.slice A4 0 c4) (.slice A5 0 c5))) (by simp [results, Try.results30, go_sem, q0, q1, q2, q3, q4, q5, q6, World.cell?_setCell_other]) rfl ?_
      obtain ⟨g1, g2, g3, g4, g5⟩ := HG.out
      have en : newMc (k : Int) = ⟨k, 0, List.replicate k [], List.replicate k [], List.replicate 4 ⟨false, 0⟩, [], []⟩ := by unfold newMc; simp
      refine ⟨Sk, w.heap.size + 1 + 1, by rw [g1, g2, g3, g4, g5, en]; simp, ?_, ?_⟩
      · rw [en]
        exact (HM.out.keep (fun j q hq => set7_heap _ _ _ _ _ _ _ _ _ _ (by have := (HM.out.sp.lt hq).1; omega))).base (by omega)
      · have hb0 : Below w.heap.size w wq := ((Below.refl _ _).alloc (Nat.le_refl _) _).trans (HB.out.mono (by omega))
        exact (((((((hb0.setCell (Nat.le_refl _) _).setCell (Nat.le_refl _) _).setCell (Nat.le_refl _) _).setCell (Nat.le_refl _) _).setCell (Nat.le_refl _) _).setCell (Nat.le_refl _) _).setCell (Nat.le_refl _) _)

end Go.Proofs.Ytolcgopfbbmjgaa

/-
  A machine of a call's own: l07Own.
-/
namespace Go.Proofs.Ytolcgopfbbmjgaa
set_option linter.unusedVariables false
set_option linter.unusedSimpArgs false
open Go.RowKit

section
variable {P : Program} (w : World)
/-- append onto a row just laid, as a step of a region that draws: told from an earlier world. -/
theorem step_append_new {ops : Array Oper} {o : Oper} {a : Act} {K : Act → World → Prop} {Q : Exit → Act → World → Prop} {E : Prop} (hgd : o.guard = none) (s x : Operand) (t : TypeId)
    (ho : o.op = .call { callee := .builtin .append, args := #[s, x], argTypes := #[t, t] })
    (e : TypeId) (i : TypeInfo) (z : Value) (size bytes : Nat) (ht : P.underlying t = some (.slice e)) (hi : P.info? e = some i) (hz : i.zero = some z)
    (hsize : i.size = size) (hby : i.bytes = bytes) (hzs : z.cells.size = size) (hsz : 0 < size)
    (w1 : World) (hB : Below w1.heap.size w1 w) (v : Value) (hs : a.eval s = v) (hown : w.ownsRow w1.heap.size e size v 0 [])
    (A : Option Addr) (m c : Nat) (news : List Value) (hx : a.eval x = .slice A m c) (hr : Reads w1 w1.heap.size size A m news) (h1 : ∀ u ∈ news, u.oneCell' = true)
    (h63 : m ≤ maxLen) (hbytes : m * bytes ≤ 140737488355328)
    (h : ∀ v' w', w'.ownsRow w1.heap.size e size v' m news → Below w1.heap.size w1 w' → w.grownBy w' v.ownBlock → (v'.ownBlock = v.ownBlock ∨ v'.ownBlock = some w.heap.size) → K (a.put o.dst v') w') :
    if Region.wanted o (yielded ops a.tmps) = true then Oper.wp P o a w K Q else E :=
  step_append_any w hgd s x t ho w1.heap.size e i z size bytes ht hi hz hsize hby hzs hsz v 0 [] hs hown w1.heap.size A m c news hx (hr.below hB) h1 (by omega) (by simpa using hbytes) hB.size
    (fun v' w' h2 h3 h4 => h v' w' (by simpa using h2) (hB.grown h3 hB.size (fun q hq => (hown.lt q hq).1)) h3 h4)
end
theorem car_one (l : List Car) : ∀ u ∈ vS Car.cells l, u.oneCell' = true := by
  intro u hu
  unfold vS at hu
  obtain ⟨x, _, hx⟩ := List.mem_flatMap.1 hu
  simp at hx
  rcases hx with rfl | rfl <;> rfl
theorem own_set7 {w : World} {B g E : Nat} {z0 z1 z2 z3 z4 z5 z6 : Value} (h : w.ownsRow B E 7 (.slice (some ⟨g, 0, none⟩) 1 1) 1 [z0, z1, z2, z3, z4, z5, z6]) (u0 u1 u2 u3 u4 u5 u6 : Value) :
    (((((((w.setCell ⟨g, 0, none⟩ u0).setCell ⟨g, 1, none⟩ u1).setCell ⟨g, 2, none⟩ u2).setCell ⟨g, 3, none⟩ u3).setCell ⟨g, 4, none⟩ u4).setCell ⟨g, 5, none⟩ u5).setCell ⟨g, 6, none⟩ u6).ownsRow B E 7 (.slice (some ⟨g, 0, none⟩) 1 1) 1 [u0, u1, u2, u3, u4, u5, u6] :=
  own_setx u6 (own_setx u5 (own_setx u4 (own_setx u3 (own_setx u2 (own_setx u1 (own_setx u0 h (by omega)) (by omega)) (by omega)) (by omega)) (by omega)) (by omega)) (by omega)
theorem own_far7 {w : World} {B g E sz n : Nat} {v : Value} {xs : List Value} (h : w.ownsRow B E sz v n xs) (hg : v.ownBlock ≠ some g) (u0 u1 u2 u3 u4 u5 u6 : Value) :
    (((((((w.setCell ⟨g, 0, none⟩ u0).setCell ⟨g, 1, none⟩ u1).setCell ⟨g, 2, none⟩ u2).setCell ⟨g, 3, none⟩ u3).setCell ⟨g, 4, none⟩ u4).setCell ⟨g, 5, none⟩ u5).setCell ⟨g, 6, none⟩ u6).ownsRow B E sz v n xs :=
  own_far (own_far (own_far (own_far (own_far (own_far (own_far h hg u0) hg u1) hg u2) hg u3) hg u4) hg u5) hg u6
/-- The cells of a box. -/
theorem box7 {w : World} {B g E : Nat} {u0 u1 u2 u3 u4 u5 u6 : Value} (h : w.ownsRow B E 7 (.slice (some ⟨g, 0, none⟩) 1 1) 1 [u0, u1, u2, u3, u4, u5, u6]) : (w.cell? ⟨g, 0, none⟩ = some u0 ∧ w.cell? ⟨g, 1, none⟩ = some u1 ∧ w.cell? ⟨g, 2, none⟩ = some u2 ∧ w.cell? ⟨g, 3, none⟩ = some u3 ∧ w.cell? ⟨g, 4, none⟩ = some u4 ∧ w.cell? ⟨g, 5, none⟩ = some u5 ∧ w.cell? ⟨g, 6, none⟩ = some u6) ∧
    (∀ i, w.frozen? ⟨g, i, none⟩ = false) ∧ B ≤ g ∧ g < w.heap.size :=
  ⟨⟨(own_cellx h (i := 0) rfl).1, (own_cellx h (i := 1) rfl).1, (own_cellx h (i := 2) rfl).1, (own_cellx h (i := 3) rfl).1, (own_cellx h (i := 4) rfl).1, (own_cellx h (i := 5) rfl).1, (own_cellx h (i := 6) rfl).1⟩, (own_cellx h (i := 0) rfl).2.1, (own_cellx h (i := 0) rfl).2.2.1, (own_cellx h (i := 0) rfl).2.2.2.1⟩
abbrev zeroM : List Value := [.int .i64 0, .int .i64 0, .slice none 0 0, .slice none 0 0, .slice none 0 0, .slice none 0 0, .slice none 0 0]
theorem boxlit {B : Nat} (w : World) (hB : B ≤ w.heap.size) : (w.alloc (.cells (mcV 0 0 (.slice none 0 0) (.slice none 0 0) (.slice none 0 0) (.slice none 0 0) (.slice none 0 0)) 41)).ownsRow B 41 7 (.slice (some ⟨w.heap.size, 0, none⟩) 1 1) 1 zeroM := World.ownsRow_lit (base := B) (e := 41) (size := 7) w (mcV 0 0 (.slice none 0 0) (.slice none 0 0) (.slice none 0 0) (.slice none 0 0) (.slice none 0 0)) 1 hB (by unfold maxLen; omega) rfl
theorem slice_blk (k n c q : Nat) (h : (Value.slice (some ⟨k, 0, none⟩) n c).ownBlock = some q) : k = q := by injection h
/-- The first state of an own machine, whatever the order was. -/
theorem own_leaf {W1 Wl : World} {B g : Nat} {vc vd : Value} {cs : List Car} {dr : List Int} {wd rk : Int} {z0 z1 z2 z3 z4 z5 z6 : Value} (hx : Wl.ownsRow B 41 7 (.slice (some ⟨g, 0, none⟩) 1 1) 1 [z0, z1, z2, z3, z4, z5, z6])
    (hc : Wl.ownsRow B 74 2 vc cs.length (vS Car.cells cs)) (hd : Wl.ownsRow B 2 1 vd dr.length (vI dr)) (h1 : vc.ownBlock ≠ some g) (h2 : vd.ownBlock ≠ some g) (h3 : ∀ q, vc.ownBlock = some q → vd.ownBlock ≠ some q) (hB : Below B W1 Wl) (hg : B ≤ g) :
    ∃ S, Hid (MSt (((((((Wl.setCell ⟨g, 0, none⟩ (.int .i64 wd)).setCell ⟨g, 1, none⟩ (.int .i64 rk)).setCell ⟨g, 2, none⟩ (.slice none 0 0)).setCell ⟨g, 3, none⟩ (.slice none 0 0)).setCell ⟨g, 4, none⟩ vc).setCell ⟨g, 5, none⟩ (.slice none 0 0)).setCell ⟨g, 6, none⟩ vd) B g ⟨wd, rk, [], [], cs, [], dr⟩ S) ∧
      Hid (Below B W1 (((((((Wl.setCell ⟨g, 0, none⟩ (.int .i64 wd)).setCell ⟨g, 1, none⟩ (.int .i64 rk)).setCell ⟨g, 2, none⟩ (.slice none 0 0)).setCell ⟨g, 3, none⟩ (.slice none 0 0)).setCell ⟨g, 4, none⟩ vc).setCell ⟨g, 5, none⟩ (.slice none 0 0)).setCell ⟨g, 6, none⟩ vd)) := by
  obtain ⟨S, hS⟩ := MSt.init (own_set7 hx (.int .i64 wd) (.int .i64 rk) (.slice none 0 0) (.slice none 0 0) vc (.slice none 0 0) vd) (own_far7 hc h1 _ _ _ _ _ _ _) (own_far7 hd h2 _ _ _ _ _ _ _) h1 h2 h3
  exact ⟨S, hS, (((((((hB.setCell (p := ⟨g, 0, none⟩) hg _).setCell (p := ⟨g, 1, none⟩) hg _).setCell (p := ⟨g, 2, none⟩) hg _).setCell (p := ⟨g, 3, none⟩) hg _).setCell (p := ⟨g, 4, none⟩) hg _).setCell (p := ⟨g, 5, none⟩) hg _).setCell (p := ⟨g, 6, none⟩) hg _)⟩

/-- The first state, the box laid last. -/
theorem own_leaf3 {W1 w2 : World} {B : Nat} {vc vd : Value} {cs : List Car} {dr : List Int} {wd rk : Int} (hc : w2.ownsRow B 74 2 vc cs.length (vS Car.cells cs)) (hd : w2.ownsRow B 2 1 vd dr.length (vI dr)) (h3 : ∀ q, vc.ownBlock = some q → vd.ownBlock ≠ some q) (hB : Below B W1 w2) (hs : B ≤ w2.heap.size) :
    ∃ S, Hid (MSt (w2.alloc (.cells #[.int .i64 wd, .int .i64 rk, .slice none 0 0, .slice none 0 0, vc, .slice none 0 0, vd] 41)) B w2.heap.size ⟨wd, rk, [], [], cs, [], dr⟩ S) ∧ Hid (Below B W1 (w2.alloc (.cells #[.int .i64 wd, .int .i64 rk, .slice none 0 0, .slice none 0 0, vc, .slice none 0 0, vd] 41))) := by
  have hb := World.ownsRow_lit (base := B) (e := 41) (size := 7) w2 #[.int .i64 wd, .int .i64 rk, .slice none 0 0, .slice none 0 0, vc, .slice none 0 0, vd] 1 hs (by unfold maxLen; omega) rfl
  obtain ⟨S, hS⟩ := MSt.init hb (hc.alloc _) (hd.alloc _) (fun e => by have := (World.ownsRow.lt hc _ e).2; omega) (fun e => by have := (World.ownsRow.lt hd _ e).2; omega) h3
  exact ⟨S, hS, hB.alloc hs _⟩
theorem lt_apart {w1 w2 : World} {B B' E E' z z' n n' : Nat} {v v' : Value} {xs xs' : List Value} (h : w1.ownsRow B E z v n xs) (h' : w2.ownsRow B' E' z' v' n' xs') (hs : w1.heap.size ≤ B') : ∀ q, v.ownBlock = some q → v'.ownBlock ≠ some q := fun q h1 h2 => by
  have := (World.ownsRow.lt h q h1).2
  have := (World.ownsRow.lt h' q h2).1
  omega

theorem take_snoc1 {α : Type} {l : List α} {k : Nat} {x : α} (h : l[k]? = some x) : l.take (k + 1) = l.take k ++ [x] := by rw [List.take_add_one, h]; rfl
@[go_sem] def ldOwnF : Oper := { dst := some 36, op := Op.load 36 (Operand.tmp 35), type := 36, pos := "l07_machine.go:220", after := #[{ on := 0, ground := Ground.data }], guard := none }
@[go_sem] def ldOwnB : Oper := { dst := some 49, op := Op.load 36 (Operand.tmp 48), type := 36, pos := "l07_machine.go:221", after := #[{ on := 0, ground := Ground.data }], guard := none }
@[go_sem] def ixOwnB : Oper := { dst := some 55, op := Op.indexAddr 36 (Operand.tmp 53) (Operand.tmp 54), type := 0, pos := "l07_machine.go:221", after := #[{ on := 5, ground := Ground.data }, { on := 6, ground := Ground.data }], guard := none }
set_option maxHeartbeats 8000000 in
set_option maxRecDepth 100000 in
theorem l07Own_any (m : Mc) (g : Nat) (w : World) (h : RdP w g m) (ok : okM m = true) : Calls Try.prog 31 #[.pointer (some ⟨g, 0, none⟩)] w (MadeM w m) := by
  obtain ⟨ic, hic, hc0, hc1, hc2⟩ := info_parts info_car
  obtain ⟨i0, hi, hz0, hz1, hz2⟩ := info_parts info_sl
  obtain ⟨if0, hif, hf0, hf1, hf2⟩ := info_parts info_inf
  have hok := okM_iff.1 ok
  have HOK := Lib.hid hok
  have hdl := hok.drlen
  have hcs : m.cs.length ≤ 4 := by rw [hok.cs]; exact Nat.le_refl _
  have HP := Lib.hid h
  have hgw := h.lt
  have HW1 := Lib.hid ((Below.refl w.heap.size w).alloc (Nat.le_refl _) (.cells (mcV 0 0 (.slice none 0 0) (.slice none 0 0) (.slice none 0 0) (.slice none 0 0) (.slice none 0 0)) 41))
  obtain ⟨F, G, C, L, D, hc, h1, h2, h3, h4, h5, h6⟩ := HP.out.below HW1.out
  obtain ⟨AC, cC, rfl⟩ := h3.lens
  obtain ⟨AD, cD, rfl⟩ := h5.len
  obtain ⟨x0, x1, x2, x3, x4, x5, x6⟩ := hc.seven
  have HC := Lib.hid hc
  have HRC := Lib.hid (RdS.reads Car.len (by omega) h3).1
  have HRD := Lib.hid h5
  have HF := Lib.hid h1
  have HG := Lib.hid h2
  have HLS := Lib.hid h4
  obtain ⟨AF, cF, rfl⟩ := RdN.shape h1
  obtain ⟨AG, cG, rfl⟩ := RdN.shape h2
  obtain ⟨AL, cL, rfl⟩ := RdN.shape h4
  have hfl : m.fr.length ≤ 24 := by have := hok.fr; have := hok.wd; omega
  have hbl : m.bk.length ≤ 24 := by have := hok.bk; have := hok.wd; omega
  have HF4 := Lib.hid hok.f4
  have HB4 := Lib.hid hok.b4
  have hwf : m.wd = (m.fr.length : Int) := hok.fr.symm
  have HWF := Lib.hid hwf
  have HFB := Lib.hid (show m.fr.length = m.bk.length by have := hok.fr; have := hok.bk; omega)
  clear hwf
  clear h hok ok hc h1 h2 h3 h4 h5 h6
  have hz1 : (w.alloc (.cells (mcV 0 0 (.slice none 0 0) (.slice none 0 0) (.slice none 0 0) (.slice none 0 0) (.slice none 0 0)) 41)).heap.size = w.heap.size + 1 := by simp
  have hgW : g < (w.alloc (.cells (mcV 0 0 (.slice none 0 0) (.slice none 0 0) (.slice none 0 0) (.slice none 0 0) (.slice none 0 0)) 41)).heap.size := by rw [hz1]; omega
  have HR0 := Lib.hid (show CellsAt (w.alloc (.cells (mcV 0 0 (.slice none 0 0) (.slice none 0 0) (.slice none 0 0) (.slice none 0 0) (.slice none 0 0)) 41)) w.heap.size 0 (mcV 0 0 (.slice none 0 0) (.slice none 0 0) (.slice none 0 0) (.slice none 0 0) (.slice none 0 0)).toList ∧ (∀ i, (w.alloc (.cells (mcV 0 0 (.slice none 0 0) (.slice none 0 0) (.slice none 0 0) (.slice none 0 0) (.slice none 0 0)) 41)).frozen? ⟨w.heap.size, i, none⟩ = false) from ⟨CellsAt.of_alloc, fun i => frozen_of_row _ _ i _ _ (heap_alloc_new w _)⟩)
  go_enter Try.func31, Try.ntmps31
  go_upto_region 1 with fail
  generalize (w.alloc (.cells (mcV 0 0 (.slice none 0 0) (.slice none 0 0) (.slice none 0 0) (.slice none 0 0) (.slice none 0 0)) 41)) = W1 at *
  have HZ1 := Lib.hid hz1
  have hzl : w.heap.size < W1.heap.size := by omega
  clear hz1
  have HQD := Lib.hid (fun (X : World) (hX : Below W1.heap.size W1 X) => l00OwnR_any (.slice AD m.dr.length cD) m.dr X (HRD.out.up' hX hX.size) (by omega))
  have HB1 := Lib.hid (show Below W1.heap.size W1 (W1.drew.alloc (.cells #[] 74)) from (Below.refl _ _).drew.alloc (Nat.le_refl _) _)
  have HB2 := Lib.hid (fun bx => show Below W1.heap.size W1 ((W1.drew.alloc bx).alloc (.cells #[] 74)) from ((Below.refl _ _).drew.alloc (Nat.le_refl _) _).alloc (by show W1.heap.size ≤ (W1.drew.alloc bx).heap.size; simp) _)
  have HB3 := Lib.hid (fun bx => show Below W1.heap.size W1 ((W1.drew.alloc (.cells #[] 74)).alloc bx) from ((Below.refl _ _).drew.alloc (Nat.le_refl _) _).alloc (by show W1.heap.size ≤ (W1.drew.alloc _).heap.size; simp) _)
  have HO1 := Lib.hid (World.ownsRow_lit (base := W1.heap.size) (e := 74) (size := 2) W1.drew #[] 0 (Nat.le_refl _) (by unfold maxLen; omega) rfl)
  have HO2 := Lib.hid (show ∀ bx : Obj, (((W1.alloc bx).alloc (.cells #[] 74)).drew).ownsRow W1.heap.size 74 2 (.slice (some ⟨W1.heap.size + 1, 0, none⟩) 0 0) 0 [] from fun bx => by
    have := World.ownsRow_lit (base := W1.heap.size) (e := 74) (size := 2) (W1.alloc bx) #[] 0 (by rw [World.size_alloc]; exact Nat.le_succ _) (by unfold maxLen; omega) rfl
    rw [World.size_alloc] at this
    exact this)
  have PA0 := Lib.hid (show ∀ (wc : World) (k n c : Nat), (((W1.alloc (.cells #[.int .i64 0, .int .i64 0, .slice none 0 0, .slice none 0 0, .slice none 0 0, .slice none 0 0, .slice none 0 0] 41)).alloc (.cells #[] 74)).drew).grownBy wc (Value.slice (some ⟨k, 0, none⟩) n c).ownBlock → k ≠ W1.heap.size → wc.ownsRow W1.heap.size 41 7 (.slice (some ⟨W1.heap.size, 0, none⟩) 1 1) 1 zeroM from
    fun wc k n c h hr => own_other (w := ((W1.alloc (.cells #[.int .i64 0, .int .i64 0, .slice none 0 0, .slice none 0 0, .slice none 0 0, .slice none 0 0, .slice none 0 0] 41)).alloc (.cells #[] 74)).drew) ((boxlit (B := W1.heap.size) W1 (Nat.le_refl _)).alloc (.cells #[] 74)) h (fun q hq e => hr ((slice_blk _ _ _ _ e).trans (slice_blk _ _ _ _ hq).symm)))
  have PA1 := Lib.hid (show ∀ (wc : World) (k n c : Nat), (((W1.alloc (.cells #[] 74)).alloc (.cells #[.int .i64 0, .int .i64 0, .slice none 0 0, .slice none 0 0, .slice none 0 0, .slice none 0 0, .slice none 0 0] 41)).drew).grownBy wc (Value.slice (some ⟨k, 0, none⟩) n c).ownBlock → k ≠ W1.heap.size + 1 → wc.ownsRow W1.heap.size 41 7 (.slice (some ⟨W1.heap.size + 1, 0, none⟩) 1 1) 1 zeroM from
    fun wc k n c h hr => own_other (w := ((W1.alloc (.cells #[] 74)).alloc (.cells #[.int .i64 0, .int .i64 0, .slice none 0 0, .slice none 0 0, .slice none 0 0, .slice none 0 0, .slice none 0 0] 41)).drew) (by have := boxlit (B := W1.heap.size) (W1.alloc (.cells #[] 74)) (by rw [World.size_alloc]; exact Nat.le_succ _); rw [World.size_alloc] at this; exact this) h (fun q hq e => hr ((slice_blk _ _ _ _ e).trans (slice_blk _ _ _ _ hq).symm)))
  have PC2 := Lib.hid (show ∀ (wc w2 : World), Below W1.heap.size W1 wc → Below (wc.alloc (.cells #[.int .i64 0, .int .i64 0, .slice none 0 0, .slice none 0 0, .slice none 0 0, .slice none 0 0, .slice none 0 0] 41)).heap.size (wc.alloc (.cells #[.int .i64 0, .int .i64 0, .slice none 0 0, .slice none 0 0, .slice none 0 0, .slice none 0 0, .slice none 0 0] 41)) w2 → w2.ownsRow W1.heap.size 41 7 (.slice (some ⟨wc.heap.size, 0, none⟩) 1 1) 1 zeroM from fun wc w2 hBc h => own_below (boxlit (B := W1.heap.size) wc hBc.size) h)
  go_cut [3] (fun s3 wx => ∃ (g1 : Nat) (S : Nat → Spot), s3 = .pointer (some ⟨g1, 0, none⟩) ∧ Hid (MSt wx W1.heap.size g1 ⟨m.wd, m.rk, [], [], m.cs, [], m.dr⟩ S) ∧ Hid (Below W1.heap.size W1 wx))
  case first =>
    go_region_held3 (fun w' => w'.cell? ⟨g, 0, none⟩ = some (.int .i64 m.wd) ∧ w'.cell? ⟨g, 1, none⟩ = some (.int .i64 m.rk) ∧ w'.cell? ⟨g, 4, none⟩ = some (.slice AC m.cs.length cC) ∧ w'.cell? ⟨g, 6, none⟩ = some (.slice AD m.dr.length cD))
      (first | with_reducible exact ⟨x0, x1, x4, x6⟩ | with_reducible exact ⟨q0, q1, q4, q6⟩ | with_reducible exact ⟨r0, r1, r4, r6⟩ | (simp only [hfr]; with_reducible exact ⟨r0, r1, r4, r6⟩) | go_keep)
      (first
        | (refine step_append_new _ (by rfl) _ _ _ (by rfl) 74 ic _ 2 16 Try.underlying37 hic hc0 hc1 hc2 rfl (by omega) W1 (by first | exact HB1.out | exact HB2.out _ | exact HB3.out _) _ (by rfl) (by first | exact HO1.out | exact HO2.out _ | exact HO1.out.alloc _) AC m.cs.length cC _ (by rfl) HRC.out (car_one _) (by unfold maxLen; omega) (by omega) ?_; intro vc wc hownc hBc hgc hatc; obtain ⟨Avc, cvc, rfl⟩ : ∃ A c, vc = .slice A m.cs.length c := (by (obtain ⟨A, c, h1, -⟩ := (OwC.of_own hownc).cells; exact ⟨A, c, h1⟩)); obtain ⟨q0, q1, -, -, q4, -, q6⟩ := (HC.out.below hBc hgW).seven; (try (with_reducible have hbx0 := PA0.out _ _ _ _ hgc (by omega))); (try (with_reducible have hbx1 := PA1.out _ _ _ _ hgc (by omega))))
        | (go_at_call 50; (with_reducible refine (HQD.out wc hBc).mono ?_); rintro e w2 ⟨v2, rfl, hown2, hb2⟩; obtain ⟨Avd, cvd, rfl⟩ : ∃ A c, v2 = .slice A m.dr.length c := (by (obtain ⟨A, c, h1, -⟩ := (OwC.of_own hown2).cells; exact ⟨A, c, h1⟩)); have hB2 : Below W1.heap.size W1 w2 := hBc.trans (hb2.mono hBc.size); obtain ⟨r0, r1, -, -, r4, -, r6⟩ := (HC.out.below hB2 hgW).seven; have hpc := own_below hownc hb2; have hzc : wc.heap.size ≤ w2.heap.size := hb2.size; (try (have hby := own_below hbx0 hb2; have hbz := box7 hby; obtain ⟨⟨b0, b1, b2, b3, b4, b5, b6⟩, bf, bg1, bg2⟩ := hbz; have hfr := far_cell (show W1.heap.size ≠ g by omega))); (try (have hby := own_below hbx1 hb2; have hbz := box7 hby; obtain ⟨⟨b0, b1, b2, b3, b4, b5, b6⟩, bf, bg1, bg2⟩ := hbz; have hfr := far_cell (show W1.heap.size + 1 ≠ g by omega))))
        | (go_at_call 50; (with_reducible refine (HQD.out (wc.alloc (.cells #[.int .i64 0, .int .i64 0, .slice none 0 0, .slice none 0 0, .slice none 0 0, .slice none 0 0, .slice none 0 0] 41)) (hBc.alloc hBc.size _)).mono ?_); rintro e w2 ⟨v2, rfl, hown2, hb2⟩; obtain ⟨Avd, cvd, rfl⟩ : ∃ A c, v2 = .slice A m.dr.length c := (by (obtain ⟨A, c, h1, -⟩ := (OwC.of_own hown2).cells; exact ⟨A, c, h1⟩)); have hB2 : Below W1.heap.size W1 w2 := (hBc.alloc hBc.size _).trans (hb2.mono (hBc.alloc hBc.size _).size); obtain ⟨r0, r1, -, -, r4, -, r6⟩ := (HC.out.below hB2 hgW).seven; have hpc := own_below (hownc.alloc _) hb2; have hzc : wc.heap.size < w2.heap.size := (by have := hb2.size; rw [World.size_alloc] at this; exact this); have hby := PC2.out wc w2 hBc hb2; obtain ⟨⟨b0, b1, b2, b3, b4, b5, b6⟩, bf, bg1, bg2⟩ := box7 hby; have hfr := far_cell (show wc.heap.size ≠ g by have := hBc.size; omega)))
    all_goals (go_wp2_with fail; go_meet)
    · have hbs := hBc.size
      obtain ⟨S, e1, e2⟩ := own_leaf3 (W1 := W1) (wd := m.wd) (rk := m.rk) hpc (own_base hown2 hbs) (lt_apart hownc hown2 (Nat.le_refl _)) hB2 (by omega)
      exact ⟨_, S, rfl, e1, e2⟩
    · have hbs := hBc.size
      have hzw : (wc.alloc (.cells #[.int .i64 0, .int .i64 0, .slice none 0 0, .slice none 0 0, .slice none 0 0, .slice none 0 0, .slice none 0 0] 41)).heap.size = wc.heap.size + 1 := World.size_alloc _ _
      rw [hzw] at hown2
      obtain ⟨S, e1, e2⟩ := own_leaf (W1 := W1) (wd := m.wd) (rk := m.rk) hby hpc (own_base hown2 (by omega)) (fun e => by have := (World.ownsRow.lt hownc _ e).2; omega) (fun e => by have := (World.ownsRow.lt hown2 _ e).1; omega) (lt_apart hownc hown2 (by omega)) hB2 bg1
      exact ⟨_, S, rfl, e1, e2⟩
    · have hbs := hBc.size
      have hat2 : (Value.slice Avc m.cs.length cvc).ownBlock = (Value.slice (some ⟨W1.heap.size, 0, none⟩) 0 0).ownBlock ∨ (Value.slice Avc m.cs.length cvc).ownBlock = some (((W1.alloc (.cells #[] 74)).alloc (.cells #[.int .i64 0, .int .i64 0, .slice none 0 0, .slice none 0 0, .slice none 0 0, .slice none 0 0, .slice none 0 0] 41)).heap.size) := hatc
      rw [World.size_alloc, World.size_alloc] at hat2
      have hgt := (box7 hbx1).2.2.2
      obtain ⟨S, e1, e2⟩ := own_leaf (W1 := W1) (wd := m.wd) (rk := m.rk) hby hpc (own_base hown2 hbs) (fun e => by
          rcases hat2 with h9 | h9
          · rw [h9] at e; have := slice_blk _ _ _ _ e; omega
          · rw [h9] at e; injection e with e; omega) (fun e => by have := (World.ownsRow.lt hown2 _ e).1; omega) (lt_apart hownc hown2 (Nat.le_refl _)) hB2 bg1
      exact ⟨_, S, rfl, e1, e2⟩
    · have hbs := hBc.size
      have hat2 : (Value.slice Avc m.cs.length cvc).ownBlock = (Value.slice (some ⟨W1.heap.size + 1, 0, none⟩) 0 0).ownBlock ∨ (Value.slice Avc m.cs.length cvc).ownBlock = some (((W1.alloc (.cells #[.int .i64 0, .int .i64 0, .slice none 0 0, .slice none 0 0, .slice none 0 0, .slice none 0 0, .slice none 0 0] 41)).alloc (.cells #[] 74)).heap.size) := hatc
      rw [World.size_alloc, World.size_alloc] at hat2
      have hgt := (box7 hbx0).2.2.2
      obtain ⟨S, e1, e2⟩ := own_leaf (W1 := W1) (wd := m.wd) (rk := m.rk) hby hpc (own_base hown2 hbs) (fun e => by
          rcases hat2 with h9 | h9
          · rw [h9] at e; have := slice_blk _ _ _ _ e; omega
          · rw [h9] at e; injection e with e; omega) (fun e => by have := (World.ownsRow.lt hown2 _ e).1; omega) (lt_apart hownc hown2 (Nat.le_refl _)) hB2 bg1
      exact ⟨_, S, rfl, e1, e2⟩
  case rest =>
    obtain ⟨g1, S0, rfl, hM0, hB0⟩ := hcut
    rw [HWF.out] at x0
    go_wp2
    go_loopw [4] (fun i wr => ∃ (k : Nat) (Sk : Nat → Spot) (wq : World), wq = wr ∧ k ≤ m.fr.length ∧ i = .int .i64 k ∧ Hid (MSt wq W1.heap.size g1 ⟨m.wd, m.rk, m.fr.take k, m.bk.take k, m.cs, [], m.dr⟩ Sk) ∧ Hid (Below W1.heap.size W1 wq)) (fun i _ => m.fr.length - (intOf i).toNat)
    case atStart => exact ⟨0, S0, _, rfl, Nat.zero_le _, rfl, hM0, hB0⟩
    case round =>
      obtain ⟨k, Sk, wq, hwq, hk, rfl, HMq, HBq⟩ := hrel
      subst hwq
      have g0 : wq.cell? ⟨g, 0, none⟩ = some (.int .i64 (m.fr.length : Int)) := by rw [← HWF.out]; exact (HC.out.below HBq.out hgW).seven.1
      by_cases hlt : k < m.fr.length
      · have hlt0 : (k : Int) < (m.fr.length : Int) := by omega
        obtain ⟨bf, of, lf, sf, hAf, hbf, hlf, hcef, hrdf⟩ := (RdLL.below HF.out HBq.out).at_ (show k < m.fr.length by omega)
        obtain ⟨Asf, csf, rfl⟩ := hrdf.len
        have hl4f : lf.length ≤ 4 := HF4.out _ (List.mem_of_getElem? hlf)
        subst hAf
        obtain ⟨xsf, A1f, c1f, e1f, howf, hvf, hccf⟩ := HMq.out.rowF
        have hgqf := HMq.out.size.1
        have hzqf := HBq.out.size
        have hlenf : (m.fr.take k).length = k := by rw [List.length_take]; omega
        have hlen2f : ({ wd := m.wd, rk := m.rk, fr := m.fr.take k, bk := m.bk.take k, cs := m.cs, ls := [], dr := m.dr } : Mc).fr.length = k := hlenf
        rw [hlen2f] at hvf hccf howf
        rw [hvf] at howf
        have HEf := Lib.hid e1f
        have HOWf := Lib.hid howf
        have HVf := Lib.hid hvf
        have HTKf := Lib.hid (take_snoc1 hlf)
        have HLf := Lib.hid hlen2f
        have hngf : (Value.slice A1f k c1f).ownBlock ≠ some g1 := fun e => HMq.out.sp.dis (i := 1) (j := 0) (by omega) (by rw [hvf]; exact e) HMq.out.gbox
        have HNGf := Lib.hid hngf
        have HQOf := Lib.hid (l00OwnR_any _ lf wq.drew (hrdf.more (by show W1.heap.size ≤ wq.heap.size; omega)) (by omega))
        have hgcf : wq.cell? ⟨g, 2, none⟩ = some (.slice (some ⟨bf, of, none⟩) m.fr.length cF) := (HC.out.below HBq.out hgW).seven.2.2.1
        have hgnef : g1 ≠ g := by have := HMq.out.size.2; omega
        have hfarf := far_cell hgnef
        have hbnef : g1 ≠ bf := by have := HMq.out.size.2; omega
        have hfbrf := far_cell hbnef
        have hown_nef : ∀ q, (Value.slice A1f k c1f).ownBlock = some q → W1.heap.size ≤ q := fun q hq => (World.ownsRow.lt HOWf.out q hq).1
        have HONf := Lib.hid hown_nef
        clear e1f howf hvf hlf hlenf hlen2f hngf hrdf hown_nef
        go_upto_region 5 with fail
        go_cut [] from 27 to 60 (fun wx => ∃ (Sx : Nat → Spot) (wy : World), wy = wx ∧ Hid (MSt wx W1.heap.size g1 ⟨m.wd, m.rk, m.fr.take (k + 1), m.bk.take k, m.cs, [], m.dr⟩ Sx) ∧ Hid (Below W1.heap.size W1 wx))
        case first =>
          rw [show ({ dst := some 36, op := Op.load 36 (Operand.tmp 35), type := 36, pos := "l07_machine.go:220", after := #[{ on := 0, ground := Ground.data }], guard := none } : Oper) = ldOwnF from rfl]
          go_region_held3 (fun w' => w'.cell? ⟨g, 2, none⟩ = some (.slice (some ⟨bf, of, none⟩) m.fr.length cF) ∧ w'.cell? ⟨bf, of + k, none⟩ = some (.slice Asf lf.length csf))
            (first | with_reducible exact ⟨hgcf, hcef⟩ | with_reducible exact ⟨q0, q1⟩ | with_reducible exact ⟨r0, r1⟩ | (simp only [hfarf, hfbrf]; with_reducible exact ⟨r0, r1⟩) | go_keep)
            (first
              | (go_at_call 50; refine (HQOf.out).mono ?_; rintro e w2 ⟨v2, rfl, hown2, hb2⟩; have hb2' : Below wq.heap.size wq w2 := (Below.refl wq.heap.size wq).drew.trans hb2; obtain ⟨A2, c2, rfl⟩ : ∃ A c, v2 = .slice A lf.length c := (by (obtain ⟨A, c, h1, -⟩ := (OwC.of_own hown2).cells; exact ⟨A, c, h1⟩)); have q0 : w2.cell? ⟨g, 2, none⟩ = _ := (hb2'.cell (p := ⟨g, 2, none⟩) (by show g < wq.heap.size; omega)).trans hgcf; have q1 : w2.cell? ⟨bf, of + k, none⟩ = _ := (hb2'.cell (p := ⟨bf, of + k, none⟩) (by show bf < wq.heap.size; omega)).trans hcef; have z5 : w2.cell? ⟨g1, 2, none⟩ = some (.slice A1f k c1f) := (hb2'.cell (p := ⟨g1, 2, none⟩) hgqf).trans hccf; have hzz2 := hb2'.size; have z5a : ∀ ob, (w2.alloc ob).cell? ⟨g1, 2, none⟩ = some (.slice A1f k c1f) := fun ob => (World.cell?_alloc_lt w2 ob ⟨g1, 2, none⟩ (by show g1 < w2.heap.size; omega)).trans z5; have hm2 := HMq.out.below hb2'; have hw4 := own_below HOWf.out hb2')
              | (refine step_append_lies _ (by rfl) _ _ _ (by rfl) W1.heap.size 39 i0 _ 1 24 Try.underlying36 hi hz0 hz1 hz2 rfl (by omega) (.slice A1f k c1f) k xsf (by rfl) (hw4.alloc _) ⟨w2.heap.size, 0, none⟩ 1 1 [.slice A2 lf.length c2] (by rfl) (by rfl) (World.news_of_block (cs := #[.slice A2 lf.length c2]) (t := 39) (fr := (0, 0)) (heap_alloc_new w2 _)) (by simp [Value.oneCell']) (by omega) (by unfold maxLen; omega) (by omega) (by rw [World.size_alloc]; omega) (w2.heap.size + 1) (by simp) ?_; intro gg cap w3 hown3 hgrow hat hlt3; have r0 : w3.cell? ⟨g, 2, none⟩ = _ := (hgrow.cell_far ⟨g, 2, none⟩ (by rw [World.size_alloc]; show g < w2.heap.size + 1; omega) (fun e => by have := HONf.out g e.symm; omega)).trans ((World.cell?_alloc_lt w2 _ ⟨g, 2, none⟩ (by show g < w2.heap.size; omega)).trans q0); have r1 : w3.cell? ⟨bf, of + k, none⟩ = _ := (hgrow.cell_far ⟨bf, of + k, none⟩ (by rw [World.size_alloc]; show bf < w2.heap.size + 1; omega) (fun e => by have := HONf.out bf e.symm; omega)).trans ((World.cell?_alloc_lt w2 _ ⟨bf, of + k, none⟩ (by show bf < w2.heap.size; omega)).trans q1); have t5 : w3.cell? ⟨g1, 2, none⟩ = some (.slice A1f k c1f) := (hgrow.cell_far ⟨g1, 2, none⟩ (by rw [World.size_alloc]; show g1 < w2.heap.size + 1; omega) (Ne.symm HNGf.out)).trans (z5a _); have tf5 : w3.frozen? ⟨g1, 2, none⟩ = false := (hgrow.frozen_far ⟨g1, 2, none⟩ (by rw [World.size_alloc]; show g1 < w2.heap.size + 1; omega) (Ne.symm HNGf.out)).trans (((((Below.refl w2.heap.size w2).alloc (Nat.le_refl _) _).frozen (p := ⟨g1, 2, none⟩) (by show g1 < w2.heap.size; omega))).trans (hm2.frozen 2))))
          all_goals
            have hF : ∃ Sx, MSt (w3.setCell ⟨g1, 2, none⟩ (.slice (some ⟨gg, 0, none⟩) (k + 1) cap)) W1.heap.size g1 ⟨m.wd, m.rk, m.fr.take (k + 1), m.bk.take k, m.cs, [], m.dr⟩ Sx := by
              have hWA : Below w2.heap.size w2 (w2.alloc (.cells #[.slice A2 lf.length c2] 39)) := (Below.refl _ _).alloc (Nat.le_refl _) _
              have e9 := HEf.out
              have e8 := HLf.out
              rw [HTKf.out]
              refine (hm2.below hWA).addFm (l := lf) e9 (own_base (own_below hown2 hWA) (by show W1.heap.size ≤ wq.heap.size; omega)) (fun q hq e => by have h9 := (World.ownsRow.lt hown2 q hq).1; have h8 := (HMq.out.sp.ge e).2; have h10 : wq.heap.size ≤ q := h9; omega) ?_ ?_ ?_
              · rw [e8]; exact hown3
              · rw [HVf.out]; exact hgrow
              · rw [HVf.out]
                rcases hat with h9 | h9
                · exact .inl h9.symm
                · exact .inr (by rw [h9, World.size_alloc]; rfl)
            have hBn : Below W1.heap.size W1 (w3.setCell ⟨g1, 2, none⟩ (.slice (some ⟨gg, 0, none⟩) (k + 1) cap)) := (((HBq.out.trans (hb2'.mono (by omega))).alloc (by omega) _).grown hgrow (by rw [World.size_alloc]; omega) (fun q hq => HONf.out q hq)).setCell (p := ⟨g1, 2, none⟩) (HMq.out.size.2) _
            obtain ⟨Sx, hSx⟩ := hF
            go_wp2_with fail
            go_meet
            exact ⟨Sx, _, rfl, hSx, hBn⟩
        case rest =>
          obtain ⟨Sx, wy, hwy, HMy, HBy⟩ := hcut
          subst hwy
          obtain ⟨bg, og, lg, sg, hAg, hbg, hlg, hceg, hrdg⟩ := (RdLL.below HG.out HBy.out).at_ (show k < m.bk.length by have := HFB.out; omega)
          obtain ⟨Asg, csg, rfl⟩ := hrdg.len
          have hl4g : lg.length ≤ 4 := HB4.out _ (List.mem_of_getElem? hlg)
          have hkb := HFB.out
          subst hAg
          obtain ⟨xsg, A1g, c1g, e1g, howg, hvg, hccg⟩ := HMy.out.rowB
          have hgqg := HMy.out.size.1
          have hzqg := HBy.out.size
          have hleng : (m.bk.take k).length = k := by rw [List.length_take]; omega
          have hlen2g : ({ wd := m.wd, rk := m.rk, fr := m.fr.take (k + 1), bk := m.bk.take k, cs := m.cs, ls := [], dr := m.dr } : Mc).bk.length = k := hleng
          rw [hlen2g] at hvg hccg howg
          rw [hvg] at howg
          have HEg := Lib.hid e1g
          have HOWg := Lib.hid howg
          have HVg := Lib.hid hvg
          have HTKg := Lib.hid (take_snoc1 hlg)
          have HLg := Lib.hid hlen2g
          have hngg : (Value.slice A1g k c1g).ownBlock ≠ some g1 := fun e => HMy.out.sp.dis (i := 2) (j := 0) (by omega) (by rw [hvg]; exact e) HMy.out.gbox
          have HNGg := Lib.hid hngg
          have HQOg := Lib.hid (l00OwnR_any _ lg wy.drew (hrdg.more (by show W1.heap.size ≤ wy.heap.size; omega)) (by omega))
          have hgcg : wy.cell? ⟨g, 3, none⟩ = some (.slice (some ⟨bg, og, none⟩) m.bk.length cG) := (HC.out.below HBy.out hgW).seven.2.2.2.1
          have hgneg : g1 ≠ g := by have := HMy.out.size.2; omega
          have hfarg := far_cell hgneg
          have hbneg : g1 ≠ bg := by have := HMy.out.size.2; omega
          have hfbrg := far_cell hbneg
          have hown_neg : ∀ q, (Value.slice A1g k c1g).ownBlock = some q → W1.heap.size ≤ q := fun q hq => (World.ownsRow.lt HOWg.out q hq).1
          have HONg := Lib.hid hown_neg
          clear e1g howg hvg hlg hleng hlen2g hngg hrdg hown_neg
          go_upto_region 6 with fail
          rw [show ({ dst := some 49, op := Op.load 36 (Operand.tmp 48), type := 36, pos := "l07_machine.go:221", after := #[{ on := 0, ground := Ground.data }], guard := none } : Oper) = ldOwnB from rfl]
          rw [show ({ dst := some 55, op := Op.indexAddr 36 (Operand.tmp 53) (Operand.tmp 54), type := 0, pos := "l07_machine.go:221", after := #[{ on := 5, ground := Ground.data }, { on := 6, ground := Ground.data }], guard := none } : Oper) = ixOwnB from rfl]
          go_region_held3 (fun w' => w'.cell? ⟨g, 3, none⟩ = some (.slice (some ⟨bg, og, none⟩) m.bk.length cG) ∧ w'.cell? ⟨bg, og + k, none⟩ = some (.slice Asg lg.length csg))
            (first | with_reducible exact ⟨hgcg, hceg⟩ | with_reducible exact ⟨q0, q1⟩ | with_reducible exact ⟨r0, r1⟩ | (simp only [hfarg, hfbrg]; with_reducible exact ⟨r0, r1⟩) | go_keep)
            (first
              | (go_at_call 50; refine (HQOg.out).mono ?_; rintro e w2 ⟨v2, rfl, hown2, hb2⟩; have hb2' : Below wy.heap.size wy w2 := (Below.refl wy.heap.size wy).drew.trans hb2; obtain ⟨A2, c2, rfl⟩ : ∃ A c, v2 = .slice A lg.length c := (by (obtain ⟨A, c, h1, -⟩ := (OwC.of_own hown2).cells; exact ⟨A, c, h1⟩)); have q0 : w2.cell? ⟨g, 3, none⟩ = _ := (hb2'.cell (p := ⟨g, 3, none⟩) (by show g < wy.heap.size; omega)).trans hgcg; have q1 : w2.cell? ⟨bg, og + k, none⟩ = _ := (hb2'.cell (p := ⟨bg, og + k, none⟩) (by show bg < wy.heap.size; omega)).trans hceg; have z5 : w2.cell? ⟨g1, 3, none⟩ = some (.slice A1g k c1g) := (hb2'.cell (p := ⟨g1, 3, none⟩) hgqg).trans hccg; have hzz2 := hb2'.size; have z5a : ∀ ob, (w2.alloc ob).cell? ⟨g1, 3, none⟩ = some (.slice A1g k c1g) := fun ob => (World.cell?_alloc_lt w2 ob ⟨g1, 3, none⟩ (by show g1 < w2.heap.size; omega)).trans z5; have hm2 := HMy.out.below hb2'; have hw4 := own_below HOWg.out hb2')
              | (refine step_append_lies _ (by rfl) _ _ _ (by rfl) W1.heap.size 39 i0 _ 1 24 Try.underlying36 hi hz0 hz1 hz2 rfl (by omega) (.slice A1g k c1g) k xsg (by rfl) (hw4.alloc _) ⟨w2.heap.size, 0, none⟩ 1 1 [.slice A2 lg.length c2] (by rfl) (by rfl) (World.news_of_block (cs := #[.slice A2 lg.length c2]) (t := 39) (fr := (0, 0)) (heap_alloc_new w2 _)) (by simp [Value.oneCell']) (by omega) (by unfold maxLen; omega) (by omega) (by rw [World.size_alloc]; omega) (w2.heap.size + 1) (by simp) ?_; intro gg cap w3 hown3 hgrow hat hlt3; have r0 : w3.cell? ⟨g, 3, none⟩ = _ := (hgrow.cell_far ⟨g, 3, none⟩ (by rw [World.size_alloc]; show g < w2.heap.size + 1; omega) (fun e => by have := HONg.out g e.symm; omega)).trans ((World.cell?_alloc_lt w2 _ ⟨g, 3, none⟩ (by show g < w2.heap.size; omega)).trans q0); have r1 : w3.cell? ⟨bg, og + k, none⟩ = _ := (hgrow.cell_far ⟨bg, og + k, none⟩ (by rw [World.size_alloc]; show bg < w2.heap.size + 1; omega) (fun e => by have := HONg.out bg e.symm; omega)).trans ((World.cell?_alloc_lt w2 _ ⟨bg, og + k, none⟩ (by show bg < w2.heap.size; omega)).trans q1); have t5 : w3.cell? ⟨g1, 3, none⟩ = some (.slice A1g k c1g) := (hgrow.cell_far ⟨g1, 3, none⟩ (by rw [World.size_alloc]; show g1 < w2.heap.size + 1; omega) (Ne.symm HNGg.out)).trans (z5a _); have tf5 : w3.frozen? ⟨g1, 3, none⟩ = false := (hgrow.frozen_far ⟨g1, 3, none⟩ (by rw [World.size_alloc]; show g1 < w2.heap.size + 1; omega) (Ne.symm HNGg.out)).trans (((((Below.refl w2.heap.size w2).alloc (Nat.le_refl _) _).frozen (p := ⟨g1, 3, none⟩) (by show g1 < w2.heap.size; omega))).trans (hm2.frozen 3))))
          all_goals
            have hF : ∃ Sx, MSt (w3.setCell ⟨g1, 3, none⟩ (.slice (some ⟨gg, 0, none⟩) (k + 1) cap)) W1.heap.size g1 ⟨m.wd, m.rk, m.fr.take (k + 1), m.bk.take (k + 1), m.cs, [], m.dr⟩ Sx := by
              have hWA : Below w2.heap.size w2 (w2.alloc (.cells #[.slice A2 lg.length c2] 39)) := (Below.refl _ _).alloc (Nat.le_refl _) _
              have e9 := HEg.out
              have e8 := HLg.out
              rw [HTKg.out]
              refine (hm2.below hWA).addBm (l := lg) e9 (own_base (own_below hown2 hWA) (by show W1.heap.size ≤ wy.heap.size; omega)) (fun q hq e => by have h9 := (World.ownsRow.lt hown2 q hq).1; have h8 := (HMy.out.sp.ge e).2; have h10 : wy.heap.size ≤ q := h9; omega) ?_ ?_ ?_
              · rw [e8]; exact hown3
              · rw [HVg.out]; exact hgrow
              · rw [HVg.out]
                rcases hat with h9 | h9
                · exact .inl h9.symm
                · exact .inr (by rw [h9, World.size_alloc]; rfl)
            have hBn : Below W1.heap.size W1 (w3.setCell ⟨g1, 3, none⟩ (.slice (some ⟨gg, 0, none⟩) (k + 1) cap)) := (((HBy.out.trans (hb2'.mono (by omega))).alloc (by omega) _).grown hgrow (by rw [World.size_alloc]; omega) (fun q hq => HONg.out q hq)).setCell (p := ⟨g1, 3, none⟩) (HMy.out.size.2) _
            obtain ⟨Sx, hSx⟩ := hF
            have HMz := Lib.hid hSx
            have HBz := Lib.hid hBn
            go_wp2_with fail
            refine ⟨⟨k + 1, Sx, _, rfl, by omega, by go_num, HMz.out, HBz.out⟩, by simp [intOf]; omega⟩
      · have hkn : k = m.fr.length := by omega
        have hMe : MSt wq W1.heap.size g1 ⟨m.wd, m.rk, m.fr, m.bk, m.cs, m.ls.take 0, m.dr⟩ Sk := by
          have h9 := HMq.out
          rw [hkn, List.take_length, List.take_of_length_le (l := m.bk) (by have := HFB.out; omega)] at h9
          exact h9
        have HMe := Lib.hid hMe
        clear hMe HMq
        subst hkn
        go_wp2
        go_loopw [5] (fun i wr => ∃ (j : Nat) (Sj : Nat → Spot) (wp : World), wp = wr ∧ j ≤ m.ls.length ∧ i = .int .i64 j ∧ Hid (MSt wp W1.heap.size g1 ⟨m.wd, m.rk, m.fr, m.bk, m.cs, m.ls.take j, m.dr⟩ Sj) ∧ Hid (Below W1.heap.size W1 wp)) (fun i _ => m.ls.length - (intOf i).toNat)
        case atStart => exact ⟨0, Sk, _, rfl, Nat.zero_le _, rfl, HMe, HBq⟩
        case round =>
          obtain ⟨j, Sj, wp, hwp, hj, rfl, HMp, HBp⟩ := hrel
          subst hwp
          have g5 : wp.cell? ⟨g, 5, none⟩ = some (.slice AL m.ls.length cL) := (HC.out.below HBp.out hgW).seven.2.2.2.2.2.1
          by_cases hltj : j < m.ls.length
          · obtain ⟨bl, ol, x, sx, hAl, hbl, hlx, hcx, hrx⟩ := (RdIs.below HLS.out HBp.out).at_ hltj
            obtain ⟨Asx, csx, rfl⟩ := hrx.len
            subst hAl
            obtain ⟨y0, y1, y2, y3, y4, y5⟩ := hcx.six
            have hx4 : x.ps.length ≤ 4 := (ok_loop (okM_iff.2 HOK.out) hlx).2
            obtain ⟨xsl, e4, how4⟩ := HMp.out.rowL
            obtain ⟨A4, c4, hv4⟩ : ∃ A c, (Sj 4).v = .slice A ({ wd := m.wd, rk := m.rk, fr := m.fr, bk := m.bk, cs := m.cs, ls := m.ls.take j, dr := m.dr } : Mc).ls.length c := (by (obtain ⟨A, c, h1, -⟩ := (OwC.of_own how4).cells; exact ⟨A, c, h1⟩))
            have hlenj : ({ wd := m.wd, rk := m.rk, fr := m.fr, bk := m.bk, cs := m.cs, ls := m.ls.take j, dr := m.dr } : Mc).ls.length = j := by show (m.ls.take j).length = j; rw [List.length_take]; omega
            have z5 : wp.cell? ⟨g1, 5, none⟩ = some (Sj 4).v := HMp.out.cells.seven.2.2.2.2.2.1
            rw [hlenj] at hv4 how4
            rw [hv4] at how4 z5
            have hgp := HMp.out.size.1
            have hgp2 := HMp.out.size.2
            have hzp := HBp.out.size
            have hls3 : m.ls.length ≤ 300 := HOK.out.ls
            have HE4 := Lib.hid e4
            have HOW4 := Lib.hid how4
            have HV4 := Lib.hid hv4
            have HLJ := Lib.hid hlenj
            have HTK := Lib.hid (take_snoc1 hlx)
            have HNG4 := Lib.hid (show (Value.slice A4 j c4).ownBlock ≠ some g1 from fun e => HMp.out.sp.dis (i := 4) (j := 0) (by omega) (by rw [hv4]; exact e) HMp.out.gbox)
            have HCX := Lib.hid hcx
            have HRX := Lib.hid hrx
            clear e4 how4 hv4 hlenj hlx hcx hrx
            go_wp2_with fail
            have HWX := Lib.hid ((Below.refl wp.heap.size wp).alloc (Nat.le_refl _) (.cells #[.int .i64 x.k, .int .i64 x.y, .int .i64 x.b, .int .i64 x.p, .int .i64 x.d, .slice Asx x.ps.length csx] 76))
            have hzx : (wp.alloc (.cells #[.int .i64 x.k, .int .i64 x.y, .int .i64 x.b, .int .i64 x.p, .int .i64 x.d, .slice Asx x.ps.length csx] 76)).heap.size = wp.heap.size + 1 := World.size_alloc _ _
            have hbox : CellsAt (wp.alloc (.cells #[.int .i64 x.k, .int .i64 x.y, .int .i64 x.b, .int .i64 x.p, .int .i64 x.d, .slice Asx x.ps.length csx] 76)) wp.heap.size 0 [.int .i64 x.k, .int .i64 x.y, .int .i64 x.b, .int .i64 x.p, .int .i64 x.d, .slice Asx x.ps.length csx] := CellsAt.of_alloc (us := [.int .i64 x.k, .int .i64 x.y, .int .i64 x.b, .int .i64 x.p, .int .i64 x.d, .slice Asx x.ps.length csx])
            have hfbox : ∀ i, (wp.alloc (.cells #[.int .i64 x.k, .int .i64 x.y, .int .i64 x.b, .int .i64 x.p, .int .i64 x.d, .slice Asx x.ps.length csx] 76)).frozen? ⟨wp.heap.size, i, none⟩ = false := fun i => frozen_of_row _ _ i _ _ (heap_alloc_new wp _)
            refine (l00OwnR_any _ x.ps _ ((HRX.out.more hzp).up' HWX.out HWX.out.size) (by omega)).mono ?_
            rintro e w2 ⟨v2, rfl, hown2, hb2⟩
            obtain ⟨A2, c2, rfl⟩ : ∃ A c, v2 = .slice A x.ps.length c := (by (obtain ⟨A, c, h1, -⟩ := (OwC.of_own hown2).cells; exact ⟨A, c, h1⟩))
            have hz2 := hb2.size
            rw [hzx] at hown2 hb2 hz2
            have hb2' : Below wp.heap.size wp w2 := HWX.out.trans (hb2.mono (Nat.le_succ _))
            obtain ⟨b0, b1, b2, b3, b4, b5⟩ := (CellsAt.below hbox hb2 (Nat.lt_succ_self _)).six
            have fb5 : w2.frozen? ⟨wp.heap.size, 5, none⟩ = false := (hb2.frozen (p := ⟨wp.heap.size, 5, none⟩) (Nat.lt_succ_self _)).trans (hfbox 5)
            have g15 : w2.cell? ⟨g1, 5, none⟩ = some (.slice A4 j c4) := (hb2'.cell (p := ⟨g1, 5, none⟩) hgp).trans z5
            have hxg : wp.heap.size ≠ g1 := by omega
            have hbs : Below wp.heap.size wp (w2.setCell ⟨wp.heap.size, 5, none⟩ (.slice A2 x.ps.length c2)) := hb2'.setCell (p := ⟨wp.heap.size, 5, none⟩) (Nat.le_refl _) _
            have hw4 := own_below HOW4.out hbs
            have hs5 : ∀ u, (w2.setCell ⟨wp.heap.size, 5, none⟩ u).heap.size = w2.heap.size := fun u => by simp
            have hfx := far_cell hxg
            have HFX := Lib.hid hfx
            have HH2 := Lib.hid hown2
            have HBB := Lib.hid hb2
            clear hfbox hbox hown2 hb2
            go_wp2_with (at_builtin; refine wpList_append_own_at _ rfl _ _ 38 rfl W1.heap.size 76 if0 _ 6 64 Try.underlying38 hif hf0 hf1 hf2 rfl (by decide) _ _ _ rfl (hw4.alloc _) ⟨_, 0, none⟩ 1 1 [.int .i64 x.k, .int .i64 x.y, .int .i64 x.b, .int .i64 x.p, .int .i64 x.d, .slice A2 x.ps.length c2] rfl rfl (new_cells' _ _ (by simp)) (by intro u hu; simp at hu; rcases hu with rfl | rfl | rfl | rfl | rfl | rfl <;> rfl) (by unfold maxLen; omega) (by omega) (by (try simp); omega) ?_)
            intro v' w4 hown4 hgrow4 _ hat4
            obtain ⟨Av, cv, rfl⟩ : ∃ A c, v' = .slice A (j + 1) c := (by (obtain ⟨A, c, h1, -⟩ := (OwC.of_own hown4).cells; exact ⟨A, c, h1⟩))
            have hWA : Below (w2.setCell ⟨wp.heap.size, 5, none⟩ (.slice A2 x.ps.length c2)).heap.size (w2.setCell ⟨wp.heap.size, 5, none⟩ (.slice A2 x.ps.length c2)) ((w2.setCell ⟨wp.heap.size, 5, none⟩ (.slice A2 x.ps.length c2)).alloc (.cells #[.int .i64 x.k, .int .i64 x.y, .int .i64 x.b, .int .i64 x.p, .int .i64 x.d, .slice A2 x.ps.length c2] 76)) := (Below.refl _ _).alloc (Nat.le_refl _) _
            have hm3 := (HMp.out.below hbs).below hWA
            have hz4 : ((w2.setCell ⟨wp.heap.size, 5, none⟩ (.slice A2 x.ps.length c2)).alloc (.cells #[.int .i64 x.k, .int .i64 x.y, .int .i64 x.b, .int .i64 x.p, .int .i64 x.d, .slice A2 x.ps.length c2] 76)).heap.size = w2.heap.size + 1 := by rw [World.size_alloc, hs5]
            have ta : w4.cell? ⟨g1, 5, none⟩ = some (.slice A4 j c4) := (hgrow4.cell_far ⟨g1, 5, none⟩ (by rw [hz4]; show g1 < w2.heap.size + 1; omega) (Ne.symm HNG4.out)).trans ((World.cell?_alloc_lt _ _ ⟨g1, 5, none⟩ (by rw [hs5]; show g1 < w2.heap.size; omega)).trans ((HFX.out _ _ _ _).trans g15))
            have tfa : w4.frozen? ⟨g1, 5, none⟩ = false := (hgrow4.frozen_far ⟨g1, 5, none⟩ (by rw [hz4]; show g1 < w2.heap.size + 1; omega) (Ne.symm HNG4.out)).trans (hm3.frozen 5)
            have hF : ∃ S', MSt (w4.setCell ⟨g1, 5, none⟩ (.slice Av (j + 1) cv)) W1.heap.size g1 ⟨m.wd, m.rk, m.fr, m.bk, m.cs, m.ls.take (j + 1), m.dr⟩ S' := by
              have e9 := HE4.out
              have e8 := HLJ.out
              rw [HTK.out]
              have hne2 : (Value.slice A2 x.ps.length c2).ownBlock ≠ some wp.heap.size := fun e => by have h9 := (World.ownsRow.lt HH2.out _ e).1; omega
              obtain ⟨S', h1, -⟩ := MSt.addLm (x := x) (w0 := wp) (S0 := Sj) hm3 (Mv.of_below (hbs.trans (hWA.mono (by rw [hs5]; omega)))) e9 (own_base (own_below (own_far HH2.out hne2 (.slice A2 x.ps.length c2)) hWA) (by omega)) (fun q hq => ⟨fun e => by have h9 := (World.ownsRow.lt HH2.out q hq).1; have h8 := (HMp.out.sp.ge e).2; omega, by have h9 := (World.ownsRow.lt HH2.out q hq).1; omega⟩) (by rw [e8]; exact hown4) (by rw [HV4.out]; exact hgrow4) (by rw [HV4.out, hz4]; exact hat4)
              exact ⟨S', h1⟩
            obtain ⟨S', hS'⟩ := hF
            have HMz := Lib.hid hS'
            have HBz := Lib.hid ((((HBp.out.trans (hbs.mono hzp)).alloc (by rw [hs5]; omega) _).grown hgrow4 (by rw [hz4]; omega) (fun q hq => (World.ownsRow.lt HOW4.out q hq).1)).setCell (p := ⟨g1, 5, none⟩) hgp2 (.slice Av (j + 1) cv))
            clear hS' hown4 hgrow4 hat4 hWA hm3 hz4 hw4 hbs hfx hs5
            go_wp2
            refine ⟨⟨j + 1, S', _, rfl, by omega, by go_num, HMz.out, HBz.out⟩, by simp [intOf]; omega⟩
          · have hjn : j = m.ls.length := by omega
            subst hjn
            have hMe : MSt wp W1.heap.size g1 m Sj := by
              have h9 := HMp.out
              rw [List.take_length] at h9
              exact h9
            have HMe := Lib.hid hMe
            clear hMe HMp
            obtain ⟨x0, x1, x2, x3, x4, x5, x6⟩ := HMe.out.cells.seven
            obtain ⟨q0, q1, q2, q3, q4, q5, q6⟩ := (CellsAt.below HR0.out.1 HBp.out hzl).seven
            have qf : ∀ i, wp.frozen? ⟨w.heap.size, i, none⟩ = false := fun i => (HBp.out.frozen (p := ⟨w.heap.size, i, none⟩) hzl).trans (HR0.out.2 i)
            obtain ⟨A1, c1, A2, c2, A3, c3, A4, c4, A5, c5, g01, g02, g03, g04, g05⟩ := HMe.out.slices
            have HGS := Lib.hid (And.intro g01 (And.intro g02 (And.intro g03 (And.intro g04 g05))))
            rw [g01] at x2
            rw [g02] at x3
            rw [g03] at x4
            rw [g04] at x5
            rw [g05] at x6
            have hgr : g1 ≠ w.heap.size := by have := HMe.out.size.2; omega
            have hgr2 : w.heap.size ≤ W1.heap.size := by omega
            clear g01 g02 g03 g04 g05
            go_wp2
            refine bodyPost_ret (v := .agg (mcV m.wd m.rk (.slice A1 m.fr.length c1) (.slice A2 m.bk.length c2) (.slice A3 m.cs.length c3) (.slice A4 m.ls.length c4) (.slice A5 m.dr.length c5))) (by simp [results, Try.results31, go_sem, q0, q1, q2, q3, q4, q5, q6, World.cell?_setCell_other]) rfl ?_
            obtain ⟨g01, g02, g03, g04, g05⟩ := HGS.out
            refine ⟨Sj, g1, by rw [g01, g02, g03, g04, g05], ?_, ?_⟩
            · exact (HMe.out.keep (fun j q hq => set7_heap _ _ _ _ _ _ _ _ _ _ (by have := (HMe.out.sp.lt hq).1; omega))).base hgr2
            · have hb0 : Below w.heap.size w wp := HW1.out.trans (HBp.out.mono hgr2)
              exact (((((((hb0.setCell (Nat.le_refl _) _).setCell (Nat.le_refl _) _).setCell (Nat.le_refl _) _).setCell (Nat.le_refl _) _).setCell (Nat.le_refl _) _).setCell (Nat.le_refl _) _).setCell (Nat.le_refl _) _)

end Go.Proofs.Ytolcgopfbbmjgaa

/-
  More that is written into a machine of a call's own: its width, the parents of a loop; and its value.
-/
namespace Go.Proofs.Ytolcgopfbbmjgaa
set_option linter.unusedVariables false
set_option linter.unusedSimpArgs false
open Go.RowKit

section
variable {w w' : World} {B g : Nat} {m : Mc} {S : Nat → Spot}
/-- The width is set. -/
theorem MSt.setWd {r : Int} (h : MSt w B g m S) : MSt (w.setCell ⟨g, 0, none⟩ (.int .i64 r)) B g { m with wd := r } (putS S 0 { S 0 with xs := (S 0).xs.set 0 (.int .i64 r) }) := by
  have hsp := h.sp.setCell (p := 0) (g := g) (i := 0) h.gbox (.int .i64 r) (by rw [h.box]; simp)
  have ev : ∀ j, j ≠ 0 → (putS S 0 { S 0 with xs := (S 0).xs.set 0 (.int .i64 r) }) j = S j := fun j h1 => putS_ne h1
  refine ⟨hsp, ?_, ?_, ?_, ?_, ?_, ?_, fun j l hl => ?_, fun j l hl => ?_, fun j x hx => ?_⟩
  · rw [putS_same, ev 1 (by omega), ev 2 (by omega), ev 3 (by omega), ev 4 (by omega), ev 5 (by omega), h.box]
    rfl
  · rw [ev 1 (by omega)]
    obtain ⟨xs, e, hx⟩ := h.fr
    exact ⟨xs, e, fun j hj => by rw [ev _ (by unfold iF; omega)]; exact hx j hj⟩
  · rw [ev 2 (by omega)]
    obtain ⟨xs, e, hx⟩ := h.bk
    exact ⟨xs, e, fun j hj => by rw [ev _ (by unfold iB; omega)]; exact hx j hj⟩
  · rw [ev 3 (by omega)]; exact h.cs
  · rw [ev 4 (by omega)]
    obtain ⟨xs, e, hx⟩ := h.ls
    exact ⟨xs, e, fun j x hj => by rw [ev _ (by unfold iP; omega)]; exact hx j x hj⟩
  · rw [ev 5 (by omega)]; exact h.dr
  · rw [ev _ (by unfold iF; omega)]; exact h.fl j l hl
  · rw [ev _ (by unfold iB; omega)]; exact h.bl j l hl
  · rw [ev _ (by unfold iP; omega)]; exact h.pl j x hx
/-- A loop is given other parents. -/
theorem MSt.setP {k b : Nat} {x : Inf} {l' : List Int} {v' : Value} (h : MSt w B g m S) (hx : m.ls[k]? = some x) (hb : (S 4).v.ownBlock = some b) (hsp : SpotsT w' B (putS S (iP k) (spI v' l'))) :
    MSt (w'.setCell ⟨b, k * 6 + 5, none⟩ v') B g { m with ls := m.ls.set k { x with ps := l' } } (putS (putS S (iP k) (spI v' l')) 4 { S 4 with xs := (S 4).xs.set (k * 6 + 5) v' }) := by
  have hk : k < m.ls.length := (List.getElem?_eq_some_iff.1 hx).1
  have hne : iP k ≠ 4 := by unfold iP; omega
  have e1 : putS S (iP k) (spI v' l') 4 = S 4 := putS_ne (fun e => hne e.symm)
  have hsz : k * 6 + 5 < (S 4).n * (S 4).sz := by obtain ⟨xs, e, _⟩ := h.ls; rw [e]; show k * 6 + 5 < m.ls.length * 6; omega
  have hsp2 := hsp.setCell (p := 4) (g := b) (i := k * 6 + 5) (by rw [e1]; exact hb) v' (by rw [e1]; exact hsz)
  rw [e1] at hsp2
  have ev : ∀ j, j ≠ 4 → j ≠ iP k → (putS (putS S (iP k) (spI v' l')) 4 { S 4 with xs := (S 4).xs.set (k * 6 + 5) v' }) j = S j := fun j h1 h2 => by rw [putS_ne h1, putS_ne h2]
  have ek : (putS (putS S (iP k) (spI v' l')) 4 { S 4 with xs := (S 4).xs.set (k * 6 + 5) v' }) (iP k) = spI v' l' := by rw [putS_ne hne, putS_same]
  have e4' : (putS (putS S (iP k) (spI v' l')) 4 { S 4 with xs := (S 4).xs.set (k * 6 + 5) v' }) 4 = { S 4 with xs := (S 4).xs.set (k * 6 + 5) v' } := putS_same _ _ _
  refine ⟨hsp2, ?_, ?_, ?_, ?_, ?_, ?_, fun j l hl => ?_, fun j l hl => ?_, fun j y hy => ?_⟩
  · rw [ev 0 (by omega) (by unfold iP; omega), e4', ev 1 (by omega) (by unfold iP; omega), ev 2 (by omega) (by unfold iP; omega), ev 3 (by omega) (by unfold iP; omega), ev 5 (by omega) (by unfold iP; omega)]
    exact h.box
  · obtain ⟨xs, e, hx⟩ := h.fr
    rw [ev 1 (by omega) (by unfold iP; omega)]
    exact ⟨xs, e, fun j hj => by rw [ev _ (by unfold iF; omega) (by unfold iF iP; omega)]; exact hx j hj⟩
  · obtain ⟨xs, e, hx⟩ := h.bk
    rw [ev 2 (by omega) (by unfold iP; omega)]
    exact ⟨xs, e, fun j hj => by rw [ev _ (by unfold iB; omega) (by unfold iB iP; omega)]; exact hx j hj⟩
  · rw [ev 3 (by omega) (by unfold iP; omega)]; exact h.cs
  · obtain ⟨xs, e, hxx⟩ := h.ls
    have hxs : (S 4).xs = xs := by rw [e]
    have hxl : (S 4).xs.length = m.ls.length * 6 := by have := (h.owned e).1; rw [hxs]; exact this
    refine ⟨(S 4).xs.set (k * 6 + 5) v', ?_, fun j y hy i u hu => ?_⟩
    · rw [e4']
      show (⟨(S 4).E, (S 4).sz, (S 4).v, (S 4).n, _⟩ : Spot) = ⟨_, _, (S 4).v, (m.ls.set k _).length, _⟩
      rw [List.length_set]
      have h1 : (S 4).E = 76 := by rw [e]
      have h2 : (S 4).sz = 6 := by rw [e]
      have h3 : (S 4).n = m.ls.length := by rw [e]
      rw [h1, h2, h3]
    · have hi : i < 6 := (List.getElem?_eq_some_iff.1 hu).1
      by_cases hjk : j = k
      · subst hjk
        have hy' : (m.ls.set j { x with ps := l' })[j]? = some y := hy
        rw [List.getElem?_set_self hk] at hy'
        injection hy' with hy'
        subst hy'
        rw [ek] at hu
        by_cases h5 : i = 5
        · subst h5
          rw [List.getElem?_set_self (by omega)]
          exact hu
        · rw [List.getElem?_set_ne (by omega), hxs]
          refine hxx j x hx i u ?_
          rcases i with _ | _ | _ | _ | _ | _ | i
          all_goals first | exact hu | omega
      · have hy' : (m.ls.set k { x with ps := l' })[j]? = some y := hy
        rw [List.getElem?_set_ne (fun e => hjk e.symm)] at hy'
        rw [ev _ (by unfold iP; omega) (by unfold iP; omega)] at hu
        rw [List.getElem?_set_ne (by omega), hxs]
        exact hxx j y hy' i u hu
  · rw [ev 5 (by omega) (by unfold iP; omega)]; exact h.dr
  · rw [ev _ (by unfold iF; omega) (by unfold iF iP; omega)]; exact h.fl j l hl
  · rw [ev _ (by unfold iB; omega) (by unfold iB iP; omega)]; exact h.bl j l hl
  · by_cases hjk : j = k
    · subst hjk
      have hy' : (m.ls.set j { x with ps := l' })[j]? = some y := hy
      rw [List.getElem?_set_self hk] at hy'
      injection hy' with hy'
      subst hy'
      rw [ek]
    · have hy' : (m.ls.set k { x with ps := l' })[j]? = some y := hy
      rw [List.getElem?_set_ne (fun e => hjk e.symm)] at hy'
      rw [ev _ (by unfold iP; omega) (by unfold iP; omega)]
      exact h.pl j y hy'
/-- Its value. -/
theorem MSt.val (h : MSt w B g m S) : RdM w w.heap.size (.agg (mcV m.wd m.rk (S 1).v (S 2).v (S 3).v (S 4).v (S 5).v)) m := by
  refine ⟨_, _, _, _, _, rfl, ?_, ?_, ?_, ?_, (spI_rd (h.sp.own 5) h.dr).1, (spI_rd (h.sp.own 5) h.dr).2⟩
  · obtain ⟨xs, e, hx⟩ := h.fr
    refine RdN.of_row (h.owned e) (fun k x hk => ⟨[(S (iF k)).v], rfl, fun j u hu => ?_, _, rfl, spI_rd (h.sp.own _) (h.fl k x hk)⟩)
    obtain rfl : j = 0 := by have := (List.getElem?_eq_some_iff.1 hu).1; simp at this; omega
    rw [Nat.mul_one, Nat.add_zero, hx k (List.getElem?_eq_some_iff.1 hk).1]
    exact hu
  · obtain ⟨xs, e, hx⟩ := h.bk
    refine RdN.of_row (h.owned e) (fun k x hk => ⟨[(S (iB k)).v], rfl, fun j u hu => ?_, _, rfl, spI_rd (h.sp.own _) (h.bl k x hk)⟩)
    obtain rfl : j = 0 := by have := (List.getElem?_eq_some_iff.1 hu).1; simp at this; omega
    rw [Nat.mul_one, Nat.add_zero, hx k (List.getElem?_eq_some_iff.1 hk).1]
    exact hu
  · exact RdS.of_own Car.len (OwC.of_own (h.owned h.cs))
  · obtain ⟨xs, e, hx⟩ := h.ls
    exact RdN.of_row (h.owned e) (fun k x hk => ⟨_, rfl, hx k x hk, _, rfl, spI_rd (h.sp.own _) (h.pl k x hk)⟩)
end
/-- A valid machine is small. -/
structure SmM (m : Mc) : Prop where
  fr : m.fr.length ≤ 1000
  bk : m.bk.length ≤ 1000
  cs : m.cs.length ≤ 1000
  ls : m.ls.length ≤ 1000
  dr : m.dr.length ≤ 1000
  frs : ∀ x ∈ m.fr, x.length ≤ 1000
  bks : ∀ x ∈ m.bk, x.length ≤ 1000
  lss : ∀ x ∈ m.ls, x.ps.length ≤ 1000
theorem SmM.fit {m : Mc} (h : SmM m) : FitM m :=
  ⟨by have := h.fr; omega, by have := h.bk; omega, by have := h.cs; omega, by have := h.ls; omega, by have := h.dr; omega, fun x hx => by have := h.frs x hx; omega, fun x hx => by have := h.bks x hx; omega, fun x hx => by have := h.lss x hx; omega⟩

end Go.Proofs.Ytolcgopfbbmjgaa

/-
  A new machine is valid.
-/
namespace Go.Proofs.Ytolcgopfbbmjgaa
set_option linter.unusedVariables false
set_option linter.unusedSimpArgs false
open Go.RowKit

theorem okM_new {n : Int} (h0 : 1 ≤ n) (h1 : n ≤ 24) : OkP (newMc n) := by
  refine ⟨⟨h0, h1⟩, ⟨by show (-3 : Int) ≤ 0; omega, by show (0 : Int) ≤ 3; omega⟩, ?_, ?_, rfl, by simp [newMc], ?_, ?_, ?_, ?_, rfl, ?_, ?_⟩
  · simp [newMc]; omega
  · simp [newMc]; omega
  · intro x hx
    have := (List.mem_replicate.1 hx).2
    rw [this]; simp
  · intro x hx
    have := (List.mem_replicate.1 hx).2
    rw [this]; simp
  · intro c hc
    have := (List.mem_replicate.1 hc).2
    rw [this]
    show carB n ⟨false, 0⟩ = true
    simp [carB]
    exact inB_iff.2 ⟨by omega, by omega⟩
  · intro j x hx
    simp [newMc] at hx
  · have e : allL (newMc n) = [] := by simp [allL, newMc]
    rw [e]; exact List.nodup_nil
  · have e : allL (newMc n) = [] := by simp [allL, newMc]
    rw [e]; intro x hx; simp at hx

end Go.Proofs.Ytolcgopfbbmjgaa
