/-
  The normal form of a word, of the reference; when two words are equal as braids.
-/
import Derived.Test.YtfeonaocmnpkcaaGarG
import Derived.Test.YtfeonaocmnpkcaaBraidE
namespace Go.Proofs.Ytfeonaocmnpkcaa
set_option linter.unusedVariables false
set_option linter.unusedSimpArgs false
open Go.RowKit

theorem rch_len {n : Nat} {L L' : List Pm} (h : Rch n L L') : L'.length = L.length := by
  have hm : ∀ {A B : List Pm}, Mv n A B → B.length = A.length := by
    intro A B h
    induction h with
    | here k hk hn hs hf => simp
    | cons _ ih => simp [ih]
  induction h with
  | refl => rfl
  | head h _ ih => rw [ih, hm h]
theorem Nrm.len {n : Nat} {L : List Pm} {a : Nat} {F : List Pm} (h : Nrm n L a F) : a + F.length ≤ L.length := by
  obtain ⟨b, r, _⟩ := h.ex
  have := rch_len r
  unfold nfm at this
  simp at this
  omega
theorem raw_len (n : Nat) (w : List Int) : (raw n w).length = w.length := by
  have : ∀ (w : List Int) (L : List Pm), (w.foldl (fun L k => flipK n k L ++ [lets n k]) L).length = L.length + w.length := by
    intro w
    induction w with
    | nil => intro L; simp
    | cons k w ih =>
      intro L
      rw [List.foldl_cons, ih]
      have : (flipK n k L).length = L.length := by unfold flipK flipL; split <;> simp
      simp [this]
      omega
  have h := this w []
  simpa [raw] using h
theorem pow0_bd (w : List Int) : -(w.length : Int) ≤ pow0 w ∧ pow0 w ≤ 0 := by
  have : ∀ (w : List Int) (p : Int), p - w.length ≤ w.foldl stepP p ∧ w.foldl stepP p ≤ p := by
    intro w
    induction w with
    | nil => intro p; simp
    | cons k w ih =>
      intro p
      have := ih (stepP p k)
      rw [List.foldl_cons, List.length_cons]
      have h2 : p - 1 ≤ stepP p k ∧ stepP p k ≤ p := by unfold stepP; split <;> omega
      omega
  have := this w 0
  unfold pow0
  omega

theorem invW_get {l : List Int} {k : Nat} {x : Int} (h : l[l.length - 1 - k]? = some x) (hk : k < l.length) : (invW l)[k]? = some (-x) := by
  unfold invW
  rw [List.getElem?_reverse (by simpa using hk)]
  simp only [List.length_map, List.getElem?_map, h]
  rfl
theorem invW_len (l : List Int) : (invW l).length = l.length := by simp [invW]
set_option maxHeartbeats 4000000 in
set_option maxRecDepth 100000 in
theorem l03Inverse_any (v : Value) (l : List Int) (w : World) (hl : RdI w w.heap.size v l) (hlet : ∀ x ∈ l, -11 ≤ x ∧ x ≤ 11) (hlen : l.length ≤ 1048576) :
    Calls Try.prog 68 #[v] w (GivesL w (invW l)) := by
  obtain ⟨A, c, rfl⟩ := hl.len
  obtain ⟨i0, hi, hz0, hz1, hz2⟩ := info_parts info_int
  have HL := Lib.hid hl
  have HLT := Lib.hid hlet
  have HIN := Lib.hid (fun k x => invW_get (l := l) (k := k) (x := x))
  have hil := invW_len l
  generalize hI : invW l = I at *
  generalize hn : l.length = n at *
  have HN := Lib.hid hn
  have HIL := Lib.hid hil
  clear hl hlet hn hil hI
  go_enter Try.func68, Try.ntmps68
  go_wp2
  go_loopw [3, 4] (fun t i wr => ∃ (k : Nat), k ≤ n ∧ i = .int .i64 ((n : Int) - 1 - k) ∧ wr.ownsRow w.heap.size 2 1 t k (vI (I.take k)) ∧ Below w.heap.size w wr) (fun _ i _ => (intOf i + 1).toNat)
  case atStart => exact ⟨0, Nat.zero_le _, by simp, World.ownsRow_lit _ _ _ (Nat.le_refl _) (by unfold maxLen; omega) rfl, (Below.refl _ _).alloc (Nat.le_refl _) _⟩
  case round =>
    rename_i wr
    obtain ⟨k, hk, rfl, hown, hb⟩ := hrel
    have HB := Lib.hid hb
    have HO := Lib.hid hown
    by_cases hlt : k < n
    · obtain ⟨b, off, x, rfl, hbb, hx, hc⟩ := (HL.out.below hb).at_ (k := n - 1 - k) (by omega)
      obtain ⟨hx0, hx1⟩ := HLT.out x (List.mem_of_getElem? hx)
      have HT := Lib.hid (take_next (HIN.out k x hx hlt))
      have hb0 : 0 ≤ (n : Int) - 1 - k := by omega
      have hb1 : (n : Int) - 1 - k < n := by omega
      clear hb hown hx
      go_wp2_with (at_builtin; refine wpList_append_own _ rfl _ _ 22 rfl w.heap.size 2 i0 _ 1 8 Try.underlying22 hi hz0 hz1 hz2 rfl (by decide) _ _ _ rfl (HO.out.alloc _) ⟨wr.heap.size, 0, none⟩ 1 1 [.int .i64 (-x)] rfl rfl ?c1 ?c2 ?c3 ?c4 ?c5 ?_)
      case c1 => exact new_cells' _ _ (by simp)
      case c2 => intro u hu; simp at hu; subst hu; rfl
      case c3 => unfold maxLen; omega
      case c4 => omega
      case c5 => have := HB.out.size; simp; omega
      intro v' w2 hown2 hgrow2 _
      have HB1 := Lib.hid (below_append' (HB.out.alloc HB.out.size _) (by have := HB.out.size; simp; omega) HO.out (by simp) hgrow2)
      have HO1 : Hid (w2.ownsRow w.heap.size 2 1 v' (k + 1) (vI (I.take (k + 1)))) := by unfold Hid; rw [HT.out, vI_append]; exact hown2
      clear hgrow2 hown2 HB HO
      go_wp2
      exact ⟨⟨k + 1, by omega, by rw [show (n : Int) - 1 - ((k + 1 : Nat) : Int) = (n : Int) - 1 - k - 1 by omega], HO1.out, HB1.out⟩, by simp [intOf]; omega⟩
    · have hb0 : ¬ 0 ≤ (n : Int) - 1 - k := by omega
      clear hb hown
      go_wp2
      go_ret
      obtain rfl : k = n := by omega
      refine ⟨_, rfl, ?_, HB.out⟩
      have h := OwC.of_own HO.out
      rw [List.take_of_length_le (by rw [HIL.out]; omega)] at h
      rw [HIL.out]
      exact h

theorem LetsN.bd {n : Nat} {l : List Int} (h : LetsN n l) (hn : n ≤ 12) : ∀ x ∈ l, -11 ≤ x ∧ x ≤ 11 := fun x hx => by
  obtain ⟨h1, h2⟩ := h x hx
  omega

set_option maxHeartbeats 2000000 in
set_option maxRecDepth 100000 in
/-- No factors. -/
theorem l04Settle_nil (n : Int) (A : Option Addr) (c : Nat) (w : World) :
    Calls Try.prog 83 #[.int .i64 n, .slice A 0 c] w fun e w' => ∃ (A : Option Addr) (c : Nat), e = .returned (.tuple #[.int .i64 0, .slice A 0 c]) ∧ Below w.heap.size w w' := by
  obtain ⟨i0, hi, hy0, hy1, hy2⟩ := info_parts info_hd
  go_enter Try.func83, Try.ntmps83
  go_wp2_with (at_builtin; refine wpList_append_any _ rfl _ _ _ rfl w.heap.size 22 i0 _ 1 24 Try.underlying84 hi hy0 hy1 hy2 rfl (by decide) _ 0 [] rfl (World.ownsRow_lit _ _ _ (Nat.le_refl _) (by unfold maxLen; omega) rfl) w.heap.size A 0 c [] rfl Reads.none_ (by simp) (by unfold maxLen; omega) (by omega) (by simp) ?_)
  intro v1 w1 hown hg hat
  have HB0 := Lib.hid (((Below.refl w.heap.size w).alloc (Nat.le_refl _) _).grown hg (by simp) (fun kk hkk => by simp [Value.ownBlock] at hkk; omega))
  obtain ⟨A1, c1, rfl⟩ : ∃ A1 c1, v1 = .slice A1 0 c1 := by
    have ho : w1.ownsRow w.heap.size 22 1 v1 0 [] := by simpa using hown
    obtain ⟨A1, c1, e, _⟩ := (OwC.of_own ho).cells
    exact ⟨A1, c1, e⟩
  clear hown hg hat
  go_wp2
  go_loopg [7] 2 (fun gk ch wr => ∃ (cb : Bool), ch = .bool cb ∧ Hid (gk = if cb then 2 else 1) ∧ Below w.heap.size w wr)
  case atStart => exact ⟨true, rfl, rfl, HB0.out⟩
  case round =>
    obtain ⟨cb, rfl, HG, hb⟩ := hrel
    have HB := Lib.hid hb
    clear hb
    obtain ⟨wo, rfl⟩ : ∃ x : World, x = wr := ⟨_, rfl⟩
    cases cb
    · go_wp2
      go_loopg [10, 11, 12] 0 (fun gk t o i wi => t = .int .i64 0 ∧ (∃ A c, o = .slice A 0 c) ∧ i = .int .i64 0 ∧ Below w.heap.size w wi)
      case atStart => exact ⟨rfl, ⟨_, _, rfl⟩, rfl, HB.out.alloc HB.out.size _⟩
      case round =>
        obtain ⟨rfl, ⟨Ao, co, rfl⟩, rfl, hb⟩ := hrel
        have HBI := Lib.hid hb
        clear hb
        go_wp2
        go_ret2
        exact ⟨Ao, co, rfl, HBI.out⟩
    · obtain ⟨gko, rfl⟩ : ∃ x : Nat, x = gk := ⟨_, rfl⟩
      go_wp2
      go_loopg [7, 8] 0 (fun gk ch i wi => ch = .bool false ∧ i = .int .i64 0 ∧ Below w.heap.size w wi)
      case atStart => exact ⟨rfl, rfl, HB.out⟩
      case round =>
        obtain ⟨rfl, rfl, hb⟩ := hrel
        have HBI := Lib.hid hb
        clear hb
        go_wp2
        go_roundg 1
        case measure => rw [HG.out]; simp
        case rel => exact ⟨false, rfl, rfl, HBI.out⟩

set_option maxHeartbeats 8000000 in
set_option maxRecDepth 100000 in
theorem l04Normal_any (n : Nat) (hn : n ≤ 12) (l : List Int) (hl : LetsN n l) (hlen : l.length ≤ 5000) (v : Value) (w : World) (hv : RdI w w.heap.size v l) :
    Calls Try.prog 66 #[.int .i64 (n : Int), v] w fun e w' => ∃ (s : St) (A : Option Addr) (c : Nat), e = .returned (.agg #[.int .i64 (n : Int), .int .i64 s.p, .slice A s.F.length c]) ∧ IsNF n l s ∧ Below w.heap.size w w' := by
  obtain ⟨A, c, rfl⟩ := hv.len
  obtain ⟨i0, hi, hy0, hy1, hy2⟩ := info_parts info_hd
  have HL := Lib.hid hv
  have HLT := Lib.hid hl
  have HBD := Lib.hid (hl.bd hn)
  generalize hm : l.length = m at *
  have HM := Lib.hid hm
  clear hv hl hm
  have HB00 := Lib.hid (show Below w.heap.size w ((w.alloc (.cells #[.int .i64 0, .int .i64 0, .slice none 0 0] 86)).alloc (.cells #[.int .i64 (n : Int), .int .i64 0, .slice none 0 0] 86)) from ((Below.refl _ _).alloc (Nat.le_refl _) _).alloc (by simp) _)
  go_enter Try.func66, Try.ntmps66
  go_wp2
  go_loopg [6, 7] m (fun gk lv i wr => ∃ (k : Nat) (hs : List Value), gk = m - k ∧ k ≤ m ∧ i = .int .i64 k ∧ Hid (HRow wr (w.heap.size + 2) lv (lstL n (raw n (l.take k))) hs) ∧ Hid (HLow wr (w.heap.size + 2) (lstL n (raw n (l.take k))) hs) ∧
    Hid (CellsAt wr w.heap.size 0 [.int .i64 0, .int .i64 0, .slice none 0 0]) ∧ Hid (CellsAt wr (w.heap.size + 1) 0 [.int .i64 (n : Int), .int .i64 (pow0 (l.take k)), .slice none 0 0]) ∧ Hid (∀ b o, w.heap.size ≤ b → b < w.heap.size + 2 → wr.frozen? ⟨b, o, none⟩ = false) ∧ Hid (w.heap.size + 2 ≤ wr.heap.size) ∧ Below w.heap.size w wr)
  case atStart =>
    refine ⟨0, [], rfl, Nat.zero_le _, rfl, ?_, HLow.nil, ?_, ?_, ?_, by unfold Hid; first | omega | (simp; done) | (simp; omega), HB00.out.alloc (by first | omega | (simp; done) | (simp; omega)) _⟩
    · refine HRow.nil ?_
      have h0 := World.ownsRow_lit (base := w.heap.size + 2) (e := 22) (size := 1) ((w.alloc (.cells #[.int .i64 0, .int .i64 0, .slice none 0 0] 86)).alloc (.cells #[.int .i64 (n : Int), .int .i64 0, .slice none 0 0] 86)) #[] 0 (by simp) (Nat.zero_le _) rfl
      simpa using h0
    · intro j u hu; rcases j with _ | _ | _ | j <;> simp at hu <;> subst hu <;> simp [go_sem]
    · intro j u hu; rcases j with _ | _ | _ | j <;> simp [pow0] at hu <;> subst hu <;> simp [go_sem]
    · intro b o h1 h2
      obtain rfl | rfl : b = w.heap.size ∨ b = w.heap.size + 1 := by omega
      all_goals simp [go_sem]
  case round =>
    obtain ⟨wo, rfl⟩ : ∃ x : World, x = wr := ⟨_, rfl⟩
    obtain ⟨k, hs, rfl, hk, rfl, HH, HLW, HC0, HC1, HFZ, HSZ, hb⟩ := hrel
    have HB := Lib.hid hb
    clear hb
    obtain ⟨Av, cv, rfl⟩ := HH.out.shape'
    have HLEN := Lib.hid (show (lstL n (raw n (l.take k))).length = k by rw [List.length_map, raw_len, List.length_take, HM.out]; omega)
    rw [HLEN.out] at HH ⊢
    by_cases hlt : k < m
    · obtain ⟨b, off, x, rfl, hbb, hx, hc⟩ := (HL.out.below HB.out).at_ hlt
      obtain ⟨hx0, hx1⟩ := HBD.out x (List.mem_of_getElem? hx)
      obtain ⟨hxn, hxk⟩ := HLT.out x (List.mem_of_getElem? hx)
      have HT := Lib.hid (take_next hx)
      have HRAW := Lib.hid (show lstL n (raw n (l.take (k + 1))) = lstL n (flipK n x (raw n (l.take k))) ++ [lst n (lets n x)] by rw [take_next hx, raw_snoc]; simp [lstL])
      have HPOW := Lib.hid (show pow0 (l.take (k + 1)) = stepP (pow0 (l.take k)) x by rw [take_next hx, pow0_snoc])
      have hpb := pow0_bd (l.take k)
      have hlt' : (l.take k).length ≤ 5000 := by rw [List.length_take]; omega
      have HXC := Lib.hid hc
      clear hx
      rcases Int.lt_trichotomy x 0 with hneg | hzero | hpos
      · obtain ⟨j, hj⟩ : ∃ j : Nat, x = -(j : Int) := ⟨(-x).toNat, by omega⟩
        subst hj
        have hj1 : 1 ≤ j := by omega
        have hjn : j < n := by omega
        have hjneg : -(j : Int) < 0 := by omega
        have hjpos : ¬ (0 : Int) < -(j : Int) := by omega
        have hja : (-(j : Int)).natAbs = j := by omega
        have HLETS := Lib.hid (show lst n (lets n (-(j : Int))) = lst n ((Pm.half n).behind j hj1) by rw [lets_neg hjneg]; simp only [hja])
        have HFK := Lib.hid (show flipK n (-(j : Int)) (raw n (l.take k)) = flipL n (raw n (l.take k)) by unfold flipK; rw [if_neg hjpos])
        have HST := Lib.hid (show stepP (pow0 (l.take k)) (-(j : Int)) = pow0 (l.take k) - 1 by unfold stepP; rw [if_neg hjpos])
        have HQA := Lib.hid (l03Abs_any (-(j : Int)) (by omega) (by omega) wo)
        rw [if_pos hjneg, Int.neg_neg] at HQA
        have HRON := Lib.hid (raw_on (l.take k) (fun y hy => HLT.out y (List.mem_of_mem_take hy)))
        have HRLEN := Lib.hid (show (raw n (l.take k)).length = k by rw [raw_len, List.length_take, HM.out]; omega)
        obtain ⟨y0, y1, y2⟩ := HC1.out.three
        have fz1 := fun o => HFZ.out (w.heap.size + 1) o (by omega) (by omega)
        have hszo := HSZ.out
        have hf := HH.out.far HLW.out (p := ⟨w.heap.size + 1, 1, none⟩) (by simp) (by simp) (.int .i64 (pow0 (l.take k) - 1))
        have HH1 := Lib.hid hf.1
        have HQF := Lib.hid (l04FlipAll_any n hn (raw n (l.take k)) HRON.out (by rw [HRLEN.out]; omega) _ _ HH1.out.read)
        have HB1 := Lib.hid (show Below w.heap.size w (wo.setCell ⟨w.heap.size + 1, 1, none⟩ (.int .i64 (pow0 (l.take k) - 1))) from HB.out.setCell (by simp) _)
        have HC11 := Lib.hid (show CellsAt (wo.setCell ⟨w.heap.size + 1, 1, none⟩ (.int .i64 (pow0 (l.take k) - 1))) (w.heap.size + 1) 0 [.int .i64 (n : Int), .int .i64 (pow0 (l.take k) - 1), .slice none 0 0] from by have h := HC1.out.set 1 (.int .i64 (pow0 (l.take k) - 1)); rw [Nat.zero_add] at h; exact h)
        have HC01 := Lib.hid (HC0.out.far (p := ⟨w.heap.size + 1, 1, none⟩) (by simp) (.int .i64 (pow0 (l.take k) - 1)))
        have HFZ1 := Lib.hid (show ∀ b o, w.heap.size ≤ b → b < w.heap.size + 2 → (wo.setCell ⟨w.heap.size + 1, 1, none⟩ (.int .i64 (pow0 (l.take k) - 1))).frozen? ⟨b, o, none⟩ = false from fun b o h1 h2 => by rw [World.frozen?_setCell]; exact HFZ.out b o h1 h2)
        clear hxn hxk hx0 hx1 hf
        generalize hP : pow0 (l.take k) = P at *
        have hpb1 := hpb.1
        have hpb2 := hpb.2
        clear hP
        go_wp2_with fail
        refine HQA.out.mono ?_
        rintro e w' ⟨rfl, rfl⟩
        go_wp2_with fail
        refine HQF.out.mono ?_
        rintro e w2 ⟨v2, hs2, rfl, hh2, hl2, hb2⟩
        obtain ⟨A2, c2, rfl⟩ := hh2.shape'
        have hsz1 : (wo.setCell ⟨w.heap.size + 1, 1, none⟩ (.int .i64 (P - 1))).heap.size = wo.heap.size := by simp
        have hz2 : wo.heap.size ≤ w2.heap.size := by have := hb2.size; rw [hsz1] at this; exact this
        have HH2 := Lib.hid (hh2.lo (lo' := w.heap.size + 2) (by rw [hsz1]; omega))
        have HL2 := Lib.hid (hl2.of (lb' := w.heap.size + 2) (by rw [hsz1]; omega))
        have HB2 := Lib.hid (hb2.mono (show w.heap.size + 2 ≤ _ by rw [hsz1]; omega))
        have HLEN2 := Lib.hid (show (lstL n (flipL n (raw n (l.take k)))).length = k by rw [List.length_map]; unfold flipL; rw [List.length_map, HRLEN.out])
        rw [HLEN2.out] at HH2 ⊢
        clear hh2 hl2 hb2 y0 y1 y2 fz1
        go_wp2_with fail
        refine (l04Half_any n hn _).mono ?_
        rintro e w3 ⟨v3, rfl, ho3, hb3⟩
        obtain ⟨A3, c3, rfl, -⟩ := ho3.cells
        have HB3 := Lib.hid hb3
        have hz3 := hb3.size
        have HQ3 := Lib.hid (l04Behind_any n j hn hj1 hjn (Pm.half n) _ w3 (RdI.of_own ho3))
        clear ho3 hb3
        go_wp2_with fail
        refine HQ3.out.mono ?_
        rintro e w5 ⟨v5, rfl, ho5, hb5⟩
        have HO5 := Lib.hid ho5.rdA
        obtain ⟨A5, c5, rfl, -⟩ := ho5.cells
        have HB5 := Lib.hid (HB3.out.trans (hb5.mono hz3))
        have hz5 := hb5.size
        clear ho5 hb5
        go_wp2_with (at_builtin; refine wpList_append_any _ rfl _ _ _ rfl (w.heap.size + 2) 22 i0 _ 1 24 Try.underlying84 hi hy0 hy1 hy2 rfl (by decide) _ _ _ rfl ((own_below (by have h := HH2.out.own; rw [HLEN2.out] at h; exact h) HB5.out).alloc _) (w5.heap.size + 1) _ 1 1 [_] rfl lit_reads (by intro u hu; simp at hu; subst hu; rfl) (by unfold maxLen; omega) (by omega) (by simp; omega) ?_)
        intro v6 w6 hown6 hg6 hat6
        have hk5 : HOk w5 (Value.slice A2 k c2).ownBlock (.slice A5 (lst n ((Pm.half n).behind j hj1)).length c5) (lst n ((Pm.half n).behind j hj1)) := HO5.out.keep (fun b hb => ⟨hb.2, by intro e; have := (HH2.out.own.lt b e).2; omega⟩) (fun _ _ _ => rfl)
        have HH6 := Lib.hid (HRow.push HH2.out HB5.out hk5 (by rw [HLEN2.out]; exact hown6) hg6 (by simpa using hat6))
        have HL6 := Lib.hid (HLow.push HL2.out HH2.out HB5.out hk5 (HO5.out.keep (fun b hb => (by omega : w.heap.size + 2 ≤ b)) (fun _ _ _ => rfl)) hg6)
        rw [← HLETS.out, ← HFK.out, ← HRAW.out] at HH6 HL6
        have HB6 := Lib.hid (((HB2.out.trans (HB5.out.mono (by omega))) |>.alloc (by omega) _).grown hg6 (by simp; omega) (fun kk hkk => (HH2.out.own.lt kk hkk).1))
        have hz6 : wo.heap.size ≤ w6.heap.size := by have := HB6.out.size; rw [hsz1] at this; exact this
        have HFZ6 := Lib.hid (show ∀ b o, w.heap.size ≤ b → b < w.heap.size + 2 → w6.frozen? ⟨b, o, none⟩ = false from fun b o h1 h2 => (HB6.out.frozen (p := ⟨b, o, none⟩) h2).trans (HFZ1.out b o h1 h2))
        clear hown6 hg6 hat6 hk5 hsz1
        go_wp2
        go_roundg (m - (k + 1))
        case measure => omega
        case rel => exact ⟨k + 1, _, rfl, by omega, by go_num, HH6.out, HL6.out, HC01.out.below HB6.out (by omega), by rw [HPOW.out, HST.out]; exact HC11.out.below HB6.out (by omega), HFZ6.out, by unfold Hid; omega, HB1.out.trans (HB6.out.mono (by omega))⟩
      · exact absurd hzero hxn
      · obtain ⟨j, hj⟩ : ∃ j : Nat, x = (j : Int) := ⟨x.toNat, by omega⟩
        subst hj
        have hj1 : 1 ≤ j := by omega
        have hjn : j < n := by omega
        have hjneg : ¬ (j : Int) < 0 := by omega
        have hjpos : (0 : Int) < (j : Int) := by omega
        have HLETS := Lib.hid (show lst n (lets n (j : Int)) = lst n (Pm.one.behind j hj1) by rw [lets_pos hjpos]; rfl)
        have HFK := Lib.hid (show flipK n (j : Int) (raw n (l.take k)) = raw n (l.take k) by unfold flipK; rw [if_pos hjpos])
        have HST := Lib.hid (show stepP (pow0 (l.take k)) (j : Int) = pow0 (l.take k) by unfold stepP; rw [if_pos hjpos])
        have HQA := Lib.hid (l03Abs_any (j : Int) (by omega) (by omega) wo)
        rw [if_neg hjneg] at HQA
        clear hxn hxk hx0 hx1
        go_wp2_with fail
        refine HQA.out.mono ?_
        rintro e w' ⟨rfl, rfl⟩
        go_wp2_with fail
        refine (l04Identity_any n hn _).mono ?_
        rintro e w2 ⟨v2, rfl, ho2, hb2⟩
        obtain ⟨A2, c2, rfl, -⟩ := ho2.cells
        have HB2 := Lib.hid hb2
        have hz2 := hb2.size
        have HQ2 := Lib.hid (l04Behind_any n j hn hj1 hjn Pm.one _ w2 (RdI.of_own ho2))
        clear ho2 hb2
        go_wp2_with fail
        refine HQ2.out.mono ?_
        rintro e w3 ⟨v3, rfl, ho3, hb3⟩
        have HO3 := Lib.hid ho3.rdA
        obtain ⟨A3, c3, rfl, -⟩ := ho3.cells
        have HB3 := Lib.hid (HB2.out.trans (hb3.mono hz2))
        have hz3 := hb3.size
        have hszo := HSZ.out
        clear ho3 hb3
        go_wp2_with (at_builtin; refine wpList_append_any _ rfl _ _ _ rfl (w.heap.size + 2) 22 i0 _ 1 24 Try.underlying84 hi hy0 hy1 hy2 rfl (by decide) _ _ _ rfl ((own_below (by have h := HH.out.own; rw [HLEN.out] at h; exact h) HB3.out).alloc _) (w3.heap.size + 1) _ 1 1 [_] rfl lit_reads (by intro u hu; simp at hu; subst hu; rfl) (by unfold maxLen; omega) (by omega) (by simp; omega) ?_)
        intro v4 w4 hown4 hg4 hat4
        have hk3 : HOk w3 (Value.slice Av k cv).ownBlock (.slice A3 (lst n (Pm.one.behind j hj1)).length c3) (lst n (Pm.one.behind j hj1)) := HO3.out.keep (fun b hb => ⟨hb.2, by intro e; have := (HH.out.own.lt b e).2; omega⟩) (fun _ _ _ => rfl)
        have HH4 := Lib.hid (HRow.push HH.out HB3.out hk3 (by rw [HLEN.out]; exact hown4) hg4 (by simpa using hat4))
        have HL4 := Lib.hid (HLow.push HLW.out HH.out HB3.out hk3 (HO3.out.keep (fun b hb => (by omega : w.heap.size + 2 ≤ b)) (fun _ _ _ => rfl)) hg4)
        rw [← HLETS.out, ← HFK.out, ← HRAW.out] at HH4 HL4
        have HB4 := Lib.hid (((Below.refl (w.heap.size + 2) wo).trans (HB3.out.mono hszo) |>.alloc (by omega) _).grown hg4 (by simp; omega) (fun kk hkk => (HH.out.own.lt kk hkk).1))
        have hz4 := HB4.out.size
        have HFZ4 := Lib.hid (show ∀ b o, w.heap.size ≤ b → b < w.heap.size + 2 → w4.frozen? ⟨b, o, none⟩ = false from fun b o h1 h2 => (HB4.out.frozen (p := ⟨b, o, none⟩) h2).trans (HFZ.out b o h1 h2))
        clear hown4 hg4 hat4 hk3
        go_wp2
        go_roundg (m - (k + 1))
        case measure => omega
        case rel => exact ⟨k + 1, _, rfl, by omega, by go_num, HH4.out, HL4.out, HC0.out.below HB4.out (by omega), by rw [HPOW.out, HST.out]; exact HC1.out.below HB4.out (by omega), HFZ4.out, Nat.le_trans hszo hz4, HB.out.trans (HB4.out.mono (by omega))⟩
    · obtain rfl : k = m := by omega
      have HLT2 := Lib.hid (show l.take k = l from List.take_of_length_le (by rw [HM.out]; omega))
      rw [HLT2.out] at HH HLW HC1
      have hpb := pow0_bd l
      rw [HM.out] at hpb
      have HRON := Lib.hid (raw_on l HLT.out)
      have HRLEN := Lib.hid (show (raw n l).length = k by rw [raw_len, HM.out])
      have hszo := HSZ.out
      obtain ⟨y0, y1, y2⟩ := HC1.out.three
      have fz1 := fun o => HFZ.out (w.heap.size + 1) o (by omega) (by omega)
      have fz0 := fun o => HFZ.out w.heap.size o (by omega) (by omega)
      have HSET : Hid (Calls Try.prog 83 #[.int .i64 (n : Int), .slice Av k cv] wo fun e w' => ∃ (a : Nat) (F : List Pm) (A : Option Addr) (c : Nat), e = .returned (.tuple #[.int .i64 (a : Int), .slice A F.length c]) ∧ Nrm n (raw n l) a F ∧ Below wo.heap.size wo w') := by
        unfold Hid
        by_cases hn2 : 2 ≤ n
        · exact l04Settle_any n hn2 hn (raw n l) HRON.out (by rw [HRLEN.out]; omega) _ wo HH.out.read
        · have hl0 : l = [] := by
            rcases l with _ | ⟨x, t⟩
            · rfl
            · have h := HLT.out x (by simp)
              have := h.1
              have := h.2
              omega
          have hk0 : k = 0 := by rw [← HM.out, hl0]; rfl
          subst hk0
          refine (l04Settle_nil (n : Int) Av cv wo).mono ?_
          rintro e w' ⟨A, c, rfl, hb⟩
          obtain ⟨a, F, h⟩ := Nrm.exists_ HRON.out
          have hle := h.len
          rw [HRLEN.out] at hle
          have ha : a = 0 := by omega
          have hF : F = [] := List.eq_nil_of_length_eq_zero (by omega)
          exact ⟨a, F, A, c, by rw [ha, hF]; rfl, h, hb⟩
      go_wp2_with fail
      refine HSET.out.mono ?_
      rintro e w1 ⟨a, F, Af, cf, rfl, hnrm, hb1⟩
      have HN := Lib.hid hnrm
      have hal := hnrm.len
      rw [HRLEN.out] at hal
      have HB1 := Lib.hid (HB.out.trans (hb1.mono HB.out.size))
      have HC11 := HC1.out.below hb1 (by omega)
      have HC01 := HC0.out.below hb1 (by omega)
      obtain ⟨y0, y1, y2⟩ := HC11.three
      obtain ⟨z0, z1, z2⟩ := HC01.three
      have fz1 : ∀ o, w1.frozen? ⟨w.heap.size + 1, o, none⟩ = false := fun o => ((bcell hb1).2 _ o (by omega)).trans (HFZ.out (w.heap.size + 1) o (by omega) (by omega))
      have fz0 : ∀ o, w1.frozen? ⟨w.heap.size, o, none⟩ = false := fun o => ((bcell hb1).2 _ o (by omega)).trans (HFZ.out w.heap.size o (by omega) (by omega))
      have HRES := Lib.hid (show IsNF n l ⟨pow0 l + a, F⟩ from ⟨a, hnrm, rfl⟩)
      generalize hP : pow0 l = P at *
      have hp1 := hpb.1
      have hp2 := hpb.2
      clear hnrm hb1 HC11 HC01 hP
      go_wp2
      refine bodyPost_ret (v := .agg #[.int .i64 (n : Int), .int .i64 (P + a), .slice Af F.length cf]) (by simp [results, Try.results66, go_sem, y0, y1, y2, z0, z1, z2, World.cell?_setCell_other]) rfl ⟨_, Af, cf, rfl, HRES.out, ?_⟩
      exact ((((HB1.out.setCell (by simp) _).setCell (by simp) _).setCell (by simp) _).setCell (by simp) _).setCell (by simp) _

end Go.Proofs.Ytfeonaocmnpkcaa
