/-
  A permutation behind a normal form, of the program: times.
-/
import Derived.Test.YtfeonaocmnpkcaaGarM
import Derived.Deep.RegionLaw
namespace Go.Proofs.Ytfeonaocmnpkcaa
set_option linter.unusedVariables false
set_option linter.unusedSimpArgs false
open Go.RowKit

theorem Rch1.rch {n : Nat} {L L' : List Pm} (h : Rch1 n L L') : Rch n L L' := by
  obtain ⟨M, h1, h2⟩ := h
  exact .head h1 h2
theorem Rch1.after {n : Nat} {L L' L'' : List Pm} (h : Rch n L L') (k : Rch1 n L' L'') : Rch1 n L L'' := by
  cases h with
  | refl => exact k
  | head hm hr => exact ⟨_, hm, hr.trans k.rch⟩
theorem Rch1.trans {n : Nat} {L L' L'' : List Pm} (h : Rch1 n L L') (k : Rch n L' L'') : Rch1 n L L'' := by
  obtain ⟨M, h1, h2⟩ := h
  exact ⟨M, h1, h2.trans k⟩
theorem rch_at {n : Nat} {p q p' q' : Pm} (h : Rch n [p, q] [p', q']) : ∀ {L : List Pm} {i : Nat}, L[i]? = some p → L[i + 1]? = some q → Rch n L ((L.set i p').set (i + 1) q')
  | [], i, h1, _ => by simp at h1
  | [a], i, _, h2 => by simp at h2
  | a :: b :: L, 0, h1, h2 => by
    simp at h1 h2
    subst h1 h2
    exact h.appR L
  | a :: b :: L, i + 1, h1, h2 => by
    rw [List.set_cons_succ, List.set_cons_succ]
    exact (rch_at h (L := b :: L) (i := i) (by simpa using h1) (by simpa using h2)).cons a
theorem rch1_at {n : Nat} {p q p' q' : Pm} (h : Rch1 n [p, q] [p', q']) : ∀ {L : List Pm} {i : Nat}, L[i]? = some p → L[i + 1]? = some q → Rch1 n L ((L.set i p').set (i + 1) q')
  | [], i, h1, _ => by simp at h1
  | [a], i, _, h2 => by simp at h2
  | a :: b :: L, 0, h1, h2 => by
    simp at h1 h2
    subst h1 h2
    obtain ⟨M, h3, h4⟩ := h
    exact ⟨M ++ L, h3.appR L, h4.appR L⟩
  | a :: b :: L, i + 1, h1, h2 => by
    rw [List.set_cons_succ, List.set_cons_succ]
    obtain ⟨M, h3, h4⟩ := rch1_at h (L := b :: L) (i := i) (by simpa using h1) (by simpa using h2)
    exact ⟨a :: M, .cons h3, h4.cons a⟩

theorem Fac.lt {n lo gb : Nat} {w : World} {v : Value} {H : List Fh} (h : Fac n lo gb w v H) {g : Nat} (hg : v.ownBlock = some g) : lo ≤ g ∧ g < w.heap.size := h.off.lt g hg
/-- A factor more. -/
theorem Fac.snoc {n lo gb : Nat} {w w' : World} {v v' : Value} {H : List Fh} {y : Fh} {o : Obj} (h : Fac n lo gb w v H) (hgb : gb < w.heap.size) (hr : RowP n w y.g y.c y.p y.f) (hon : y.p.On n) (hlo : lo ≤ y.g)
    (hv : v.ownBlock ≠ some y.g) (hyb : y.g ≠ gb) (hne : ∀ x ∈ H, x.g ≠ y.g) (ho : OffRow w' lo 22 v' (H.length + 1) (H.map (Fh.hd n) ++ [y.hd n])) (hg : (w.alloc o).grownBy w' v.ownBlock)
    (hat : v'.ownBlock = v.ownBlock ∨ v'.ownBlock = some (w.alloc o).heap.size) : Fac n lo gb w' v' (H ++ [y]) := by
  have hsz : (w.alloc o).heap.size = w.heap.size + 1 := by simp
  have hblk : ∀ k, k < w.heap.size → v.ownBlock ≠ some k → w'.heap[k]? = w.heap[k]? := fun k hk hn => (hg.block k (by omega) (fun e => hn e.symm)).trans (heap_alloc_old w o hk)
  have hnv : ∀ k, k < w.heap.size → v.ownBlock ≠ some k → v'.ownBlock ≠ some k := by
    intro k hk hn e
    rcases hat with h1 | h1
    · exact hn (h1 ▸ e)
    · rw [h1, hsz] at e
      injection e with e
      omega
  refine ⟨?_, fun x hx => ?_, fun x hx => ?_, fun x hx => ?_, fun x hx => ?_, ?_, hnv gb hgb h.vb⟩
  · rw [List.length_append, List.map_append]
    exact ho
  · rcases List.mem_append.1 hx with h1 | h1
    · exact (h.row x h1).block (hblk _ (h.row x h1).lt fun e => (h.ob x h1).1 e.symm)
    · simp at h1
      subst h1
      exact hr.block (hblk _ hr.lt hv)
  · rcases List.mem_append.1 hx with h1 | h1
    · exact h.on x h1
    · simp at h1
      subst h1
      exact hon
  · rcases List.mem_append.1 hx with h1 | h1
    · exact h.lo x h1
    · simp at h1
      subst h1
      exact hlo
  · rcases List.mem_append.1 hx with h1 | h1
    · exact ⟨fun e => hnv _ (h.row x h1).lt (fun e2 => (h.ob x h1).1 e2.symm) e.symm, (h.ob x h1).2⟩
    · simp at h1
      subst h1
      exact ⟨fun e => hnv _ hr.lt hv e.symm, hyb⟩
  · rw [List.map_append]
    refine List.nodup_append.2 ⟨h.nd, by simp, fun a ha b hb => ?_⟩
    obtain ⟨x, hx, rfl⟩ := List.mem_map.1 ha
    simp at hb
    subst hb
    exact hne x hx
/-- Two factors side by side written in place. -/
theorem Fac.two {n lo gb i : Nat} {w w' : World} {v : Value} {H : List Fh} {x y : Fh} {p' q' : Pm} {f' h' : Nat → Value} (h : Fac n lo gb w v H) (hx : H[i]? = some x) (hy : H[i + 1]? = some y) (hp : RowP n w' x.g x.c p' f') (hq : RowP n w' y.g y.c q' h')
    (hpo : p'.On n) (hqo : q'.On n) (ht : Tch (fun b => b = x.g ∨ b = y.g) w w') : Fac n lo gb w' v ((H.set i ⟨x.g, x.c, p', f'⟩).set (i + 1) ⟨y.g, y.c, q', h'⟩) := by
  have hil := (List.getElem?_eq_some_iff.1 hx).1
  have hjl := (List.getElem?_eq_some_iff.1 hy).1
  have hxm := List.mem_of_getElem? hx
  have hym := List.mem_of_getElem? hy
  have same : ∀ {β : Type} (F : Fh → β), F ⟨x.g, x.c, p', f'⟩ = F x → F ⟨y.g, y.c, q', h'⟩ = F y → ((H.set i ⟨x.g, x.c, p', f'⟩).set (i + 1) ⟨y.g, y.c, q', h'⟩).map F = H.map F := by
    intro β F e1 e2
    refine List.ext_getElem? fun j => ?_
    rw [List.map_set, List.map_set, e1, e2, List.getElem?_set, List.getElem?_set, List.length_set, List.length_map]
    by_cases a : i + 1 = j
    · subst a
      rw [if_pos rfl, if_pos hjl, List.getElem?_map, hy]
      rfl
    · rw [if_neg a]
      by_cases b : i = j
      · subst b
        rw [if_pos rfl, if_pos hil, List.getElem?_map, hx]
        rfl
      · rw [if_neg b]
  have at_ : ∀ z, z ∈ ((H.set i ⟨x.g, x.c, p', f'⟩).set (i + 1) ⟨y.g, y.c, q', h'⟩) → z = ⟨x.g, x.c, p', f'⟩ ∨ z = ⟨y.g, y.c, q', h'⟩ ∨ (z ∈ H ∧ z.g ≠ x.g ∧ z.g ≠ y.g) := by
    intro z hz
    obtain ⟨j, hj⟩ := List.mem_iff_getElem?.1 hz
    rw [List.getElem?_set, List.getElem?_set, List.length_set] at hj
    by_cases a : i + 1 = j
    · rw [if_pos a, if_pos (by omega)] at hj
      injection hj with hj
      exact .inr (.inl hj.symm)
    · rw [if_neg a] at hj
      by_cases b : i = j
      · rw [if_pos b, if_pos (by omega)] at hj
        injection hj with hj
        exact .inl hj.symm
      · rw [if_neg b] at hj
        exact .inr (.inr ⟨List.mem_of_getElem? hj, nodup_at h.nd hj hx (fun e => b e.symm), nodup_at h.nd hj hy (fun e => a e.symm)⟩)
  refine ⟨?_, fun z hz => ?_, fun z hz => ?_, fun z hz => ?_, fun z hz => ?_, ?_, h.vb⟩
  · rw [List.length_set, List.length_set, same (Fh.hd n) rfl rfl]
    exact h.off.block fun g hg hl => ht.block g hl (by rintro (e | e); exact (h.ob x hxm).1 (by rw [hg, e]); exact (h.ob y hym).1 (by rw [hg, e]))
  · rcases at_ z hz with rfl | rfl | ⟨h1, h2, h3⟩
    · exact hp
    · exact hq
    · exact (h.row z h1).block (ht.block _ (h.row z h1).lt (by rintro (e | e); exact h2 e; exact h3 e))
  · rcases at_ z hz with rfl | rfl | ⟨h1, h2, h3⟩
    · exact hpo
    · exact hqo
    · exact h.on z h1
  · rcases at_ z hz with rfl | rfl | ⟨h1, h2, h3⟩
    · exact h.lo x hxm
    · exact h.lo y hym
    · exact h.lo z h1
  · rcases at_ z hz with rfl | rfl | ⟨h1, h2, h3⟩
    · exact h.ob x hxm
    · exact h.ob y hym
    · exact h.ob z h1
  · rw [same Fh.g rfl rfl]
    exact h.nd

/-- No letter can move from the k-th place on. -/
def Suff (n : Nat) (L : List Pm) (k : Nat) : Prop := ∀ (i : Nat) (p q : Pm), k ≤ i → L[i]? = some p → L[i + 1]? = some q → ∀ s, 1 ≤ s → s < n → q.start s → p.fin s
theorem Suff.sett {n : Nat} {L : List Pm} (h : Suff n L 0) : Sett n L := sett_of_pref (j := L.length) (by omega) fun i p q _ h1 h2 => h i p q (Nat.zero_le _) h1 h2
theorem Suff.next {n : Nat} {L : List Pm} {j : Nat} {p q : Pm} (h : Suff n L (j + 1)) (hp : L[j]? = some p) (hq : L[j + 1]? = some q) (hs : ∀ k, 1 ≤ k → k < n → q.start k → p.fin k) : Suff n L j := by
  intro i a b hi h1 h2
  by_cases hij : i = j
  · subst hij
    rw [hp] at h1
    rw [hq] at h2
    injection h1 with h1
    injection h2 with h2
    subst h1 h2
    exact hs
  · exact h i a b (by omega) h1 h2
theorem set_same {α : Type} {L : List α} {i : Nat} {a : α} (h : L[i]? = some a) : L.set i a = L := by
  obtain ⟨hi, e⟩ := List.getElem?_eq_some_iff.1 h
  rw [← e, List.set_getElem_self]
/-- Two factors side by side. -/
theorem Fac.get2 {n lo gb : Nat} {w : World} {A : Option Addr} {m c : Nat} {H : List Fh} (h : Fac n lo gb w (.slice A m c) H) {k : Nat} (hk : k + 1 < H.length) :
    ∃ g off x y, A = some ⟨g, off, none⟩ ∧ H[k]? = some x ∧ H[k + 1]? = some y ∧ w.cell? ⟨g, off + k, none⟩ = some (.slice (some ⟨x.g, 0, none⟩) n x.c) ∧ w.cell? ⟨g, off + (k + 1), none⟩ = some (.slice (some ⟨y.g, 0, none⟩) n y.c) ∧ x.g ≠ y.g := by
  obtain ⟨g, off, cap, x, e, h1, _, h2, _⟩ := h.get (k := k) (by omega)
  obtain ⟨g', off', cap', y, e', h1', _, h2', _⟩ := h.get (k := k + 1) hk
  rw [e] at e'
  injection e with e1 _ _
  injection e' with e2 _ _
  injection e2 with e2
  injection e2 with e3 e4
  subst e3 e4
  exact ⟨g, off, x, y, e1, h1, h1', h2, h2', nodup_at h.nd h1 h1' (by omega)⟩
set_option maxHeartbeats 4000000 in
set_option maxRecDepth 100000 in
theorem times_any (n : Nat) (hn2 : 2 ≤ n) (hn : n ≤ 12) (lo gb : Nat) (pw : Int) (v : Value) (H : List Fh) (p : Pm) (u : Value) (w : World) (hbx : BoxN n gb w pw v) (hfc : Fac n lo gb w v H) (hlo : lo ≤ gb)
    (hu : RdI w w.heap.size u (lst n p)) (hpo : p.On n) (hp0 : -1000000 ≤ pw) (hp1 : pw ≤ 1000000) (hlen : H.length ≤ 900000) :
    Calls Try.prog 94 #[.pointer (some ⟨gb, 0, none⟩), u] w fun e w' => e = .returned (.tuple #[]) ∧ ∃ (a : Nat) (v' : Value) (H' : List Fh), BoxN n gb w' (pw + a) v' ∧ Fac n lo gb w' v' H' ∧ Nrm n (H.map Fh.p ++ [p]) a (H'.map Fh.p) ∧ Below lo w w' := by
  obtain ⟨i0, hi, hy0, hy1, hy2⟩ := info_parts info_hd
  have HBX := Lib.hid hbx
  have HFC := Lib.hid hfc
  have hgb := hbx.lt
  have HQ := Lib.hid (cloneI_any u (lst n p) w.drew hu (by rw [lst_len]; omega))
  obtain ⟨-, -, d2⟩ := hbx.cells
  obtain ⟨A, c, rfl, hmc, hcm⟩ := hfc.off.shape
  obtain ⟨Au, cu, rfl⟩ := hu.len
  have hvb := hfc.vb
  have hone : Hid (∀ z ∈ H.map (Fh.hd n), z.oneCell' = true) := fun z hz => by obtain ⟨x, _, rfl⟩ := List.mem_map.1 hz; rfl
  generalize hm : H.length = m at *
  have HM := Lib.hid hm
  unfold maxLen at hcm
  clear hbx hfc hu hm
  go_enter Try.func94, Try.ntmps94
  go_upto_region 0 with fail
  go_cut [] from 6 (fun wc => ∃ (v1 : Value) (y : Fh), Hid (BoxN n gb wc pw v1) ∧ Hid (Fac n lo gb wc v1 (H ++ [y])) ∧ Hid (y.p = p) ∧ Hid (Below lo w wc))
  case first =>
    go_region_law ((first | (refine step_append_off _ rfl _ _ _ rfl lo 22 i0 _ 24 Try.underlying84 hi hy0 hy1 hy2 rfl _ m (H.map (Fh.hd n)) (by rfl) HO1.out hone.out ⟨w1.heap.size, 0, none⟩ 1 (.slice (some ⟨g1, 0, none⟩) n cap1) (by rfl) (by simp [go_sem]) rfl (by omega) (by omega) (by simp; omega) ?_; intro v2 w2 hown2 hg2 hat2; obtain ⟨A2, c2, rfl, -⟩ := hown2.shape; have x2 : w2.cell? ⟨gb, 2, none⟩ = some (.slice A m c) := (hg2.cell_far ⟨gb, 2, none⟩ (by simp; omega) (Ne.symm hvb)).trans ((((Below.refl w1.heap.size w1).alloc (Nat.le_refl _) _).cell (p := ⟨gb, 2, none⟩) hgb1).trans q2); have f2 : w2.frozen? ⟨gb, 2, none⟩ = false := (hg2.frozen_far ⟨gb, 2, none⟩ (by simp; omega) (Ne.symm hvb)).trans ((((Below.refl w1.heap.size w1).alloc (Nat.le_refl _) _).frozen (p := ⟨gb, 2, none⟩) hgb1).trans qf)) | (go_simp; go_wp2_with ((go_at_call 104; refine HQ.out.mono ?_; rintro e w1 ⟨v1, rfl, ho1, hb1⟩; obtain ⟨g1, cap1, F1, rfl, hlo1, hhi1, hrow1, hnc1, hcap1, hval1⟩ := own_lst ho1 (by omega); simp only [lst_len] at *; have hb2 : Below w.heap.size w w1 := (Below.refl w.heap.size w).drew.trans hb1; have q2 := (hb2.cell (p := ⟨gb, 2, none⟩) hgb).trans d2; have qf : w1.frozen? ⟨gb, 2, none⟩ = false := ((bcell hb2).2 _ _ hgb).trans (HBX.out.frozen 2); have hgb1 : gb < w1.heap.size := (by have := hb2.size; omega); have HR1 := Lib.hid (show RowP n w1 g1 cap1 p F1 from ⟨hrow1, hnc1, hcap1, hval1⟩); have HB2 := Lib.hid hb2; have HG1 := Lib.hid (show w.heap.size ≤ g1 from hlo1); have hsz1 := hb2.size; have HO1 := Lib.hid ((HM.out ▸ (HFC.out.below hb2).off : OffRow w1 lo 22 (.slice A m c) m (H.map (Fh.hd n))).block (w' := w1.alloc (.cells #[.slice (some ⟨g1, 0, none⟩) n cap1] 22)) fun g hg hl => heap_alloc_old w1 _ hl); clear hb1 hb2 ho1 hrow1 hval1)))))
    all_goals
      have HW2 := Lib.hid (((HB2.out.mono (B' := lo) (by omega)).alloc (by omega) (.cells #[.slice (some ⟨g1, 0, none⟩) n cap1] 22)).grown hg2 (by simp; omega) (fun kk hkk => (HFC.out.lt hkk).1))
      have HF2 := Lib.hid (Fac.snoc (y := ⟨g1, cap1, p, F1⟩) (HFC.out.below HB2.out) hgb1 HR1.out hpo (by have := HG1.out; show lo ≤ g1; omega) (fun e => by have h9 : g1 < w.heap.size := (HFC.out.lt e).2; have := HG1.out; omega) (by have := HG1.out; show g1 ≠ gb; omega) (fun x hx => by have := (HFC.out.row x hx).lt; have := HG1.out; show x.g ≠ g1; omega) (by rw [HM.out]; exact hown2) hg2 hat2)
      have HX2 := Lib.hid (HBX.out.block (((hg2.block gb (by simp; omega) (Ne.symm hvb)).trans (heap_alloc_old w1 _ hgb1)).trans (HB2.out.block gb hgb)))
      clear hg2 hat2 hown2
      go_wp2
      go_meet
      case rel => exact ⟨_, ⟨g1, cap1, p, F1⟩, HX2.out.fac _, HF2.out.box rfl _, rfl, HW2.out.setCell (p := ⟨gb, 2, none⟩) hlo _⟩
  case rest =>
    obtain ⟨v1, y, HB1, HF1, HY, HW1⟩ := hcut
    obtain ⟨wa, rfl⟩ : ∃ x : World, x = wc := ⟨_, rfl⟩
    obtain ⟨A1, c1, rfl, hmc1, hcm1⟩ := HF1.out.off.shape
    have HL0 : Hid ((H ++ [y]).length = m + 1) := by unfold Hid; rw [List.length_append, HM.out]; rfl
    have HP0 : Hid ((H ++ [y]).map Fh.p = H.map Fh.p ++ [p]) := by unfold Hid; rw [List.map_append, List.map_cons, HY.out]; rfl
    rw [HL0.out] at HB1 HF1 hmc1
    generalize H ++ [y] = H0 at *
    unfold maxLen at hcm1
    clear d2 hmc hcm hvb hone HQ
    go_wp2
    go_loopg [4] (mes n (H0.map Fh.p) + 1) (fun gk s4 wr => ∃ (ch : Bool) (H1 : List Fh), s4 = .bool ch ∧ Hid (gk = if ch then mes n (H1.map Fh.p) + 1 else 0) ∧ Hid (BoxN n gb wr pw (.slice A1 (m + 1) c1)) ∧ Hid (Fac n lo gb wr (.slice A1 (m + 1) c1) H1) ∧ Hid (H1.length = m + 1) ∧ Hid (Rch n (H0.map Fh.p) (H1.map Fh.p)) ∧ Hid (ch = false → Sett n (H1.map Fh.p)) ∧ Hid (Below lo w wr))
    case atStart => exact ⟨true, H0, rfl, rfl, HB1.out, HF1.out, HL0.out, .refl, fun h => (by cases h), HW1.out⟩
    case round =>
      obtain ⟨wo, rfl⟩ : ∃ x : World, x = wr := ⟨_, rfl⟩
      obtain ⟨ch, H1, rfl, HG, HBO, HFO, HL1, HR1, HS1, HWO⟩ := hrel
      obtain ⟨gko, rfl⟩ : ∃ x : Nat, x = gk := ⟨_, rfl⟩
      have HON := Lib.hid (show AllOn n (H1.map Fh.p) by intro q hq; obtain ⟨z, hz, rfl⟩ := List.mem_map.1 hq; exact HFO.out.on z hz)
      cases ch
      · have HSE := Lib.hid (HS1.out rfl)
        have HTQ := Lib.hid (tidy_any n hn2 hn lo gb pw _ H1 wo HBO.out HFO.out hlo HSE.out hp0 hp1 (by rw [HL1.out]; omega))
        go_wp2_with fail
        refine HTQ.out.mono ?_
        rintro e w2 ⟨rfl, a, b, v', H', hbx', hfc', he, hgd, hbl⟩
        have HE := Lib.hid (show BoxN n gb w2 (pw + a) v' ∧ Fac n lo gb w2 v' H' ∧ Nrm n (H.map Fh.p ++ [p]) a (H'.map Fh.p) ∧ Below lo w w2 from ⟨hbx', hfc', ⟨hgd, b, by rw [← he, ← HP0.out]; exact HR1.out, by rw [← he]; exact HSE.out⟩, HWO.out.trans hbl⟩)
        clear hbx' hfc' he hgd hbl
        go_wp2
        go_end0
        exact ⟨rfl, a, v', H', HE.out⟩
      · obtain ⟨-, -, d2⟩ := HBO.out.cells
        go_wp2
        go_loopg [4, 5] m (fun gj s4 s5 wi => ∃ (cx : Bool) (H2 : List Fh) (k : Nat), s4 = .bool cx ∧ s5 = .int .i64 ((k : Int) - 1) ∧ Hid (gj = k) ∧ k ≤ m ∧ Hid (BoxN n gb wi pw (.slice A1 (m + 1) c1)) ∧ Hid (Fac n lo gb wi (.slice A1 (m + 1) c1) H2) ∧ Hid (H2.length = m + 1) ∧
          Hid (Rch n (H1.map Fh.p) (H2.map Fh.p)) ∧ Hid (cx = false → H2.map Fh.p = H1.map Fh.p ∧ Suff n (H1.map Fh.p) k) ∧ Hid (cx = true → Rch1 n (H1.map Fh.p) (H2.map Fh.p)) ∧ Hid (Below lo w wi))
        case atStart => exact ⟨false, H1, m, rfl, by simp; omega, rfl, Nat.le_refl _, HBO.out, HFO.out, HL1.out, .refl, fun _ => ⟨rfl, fun i a b hi h1 h2 => absurd (List.getElem?_eq_some_iff.1 h2).1 (by rw [List.length_map, HL1.out]; omega)⟩, fun h => (by cases h), HWO.out⟩
        case round =>
          obtain ⟨wi, rfl⟩ : ∃ x : World, x = wr := ⟨_, rfl⟩
          obtain ⟨cx, H2, k, rfl, h5, HGJ, hk, HBI, HFI, HL2, HR2, HS2, HT2, HWI⟩ := hrel
          obtain ⟨gji, rfl⟩ : ∃ x : Nat, x = gk := ⟨_, rfl⟩
          cases k with
          | zero =>
            simp only [Int.ofNat_zero, Int.zero_sub] at h5
            subst h5
            go_wp2
            go_roundg (if cx then mes n (H2.map Fh.p) + 1 else 0)
            case measure =>
              rw [HG.out]
              cases cx
              · simp
              · have := (HT2.out rfl).mes HON.out
                simp
                omega
            case rel => exact ⟨cx, H2, rfl, rfl, HBI.out, HFI.out, HL2.out, HR1.out.trans HR2.out, fun h => (by obtain ⟨e, hs⟩ := HS2.out h; rw [e]; exact hs.sett), HWI.out⟩
          | succ j =>
            have h6 : (((j + 1 : Nat) : Int) - 1) = j := by omega
            rw [h6] at h5
            subst h5
            clear h6
            obtain ⟨g, off, x, y2, e, hx, hy, c0, c1', hxy⟩ := HFI.out.get2 (k := j) (by rw [HL2.out]; omega)
            subst e
            obtain ⟨-, -, d2⟩ := HBI.out.cells
            have HX := Lib.hid hx
            have HYY := Lib.hid hy
            have hxm := List.mem_of_getElem? hx
            have hym := List.mem_of_getElem? hy
            have HRX := Lib.hid (HFI.out.row x hxm)
            have HRY := Lib.hid (HFI.out.row y2 hym)
            have HXY := Lib.hid hxy
            have HWQ := Lib.hid (weigh_any n hn2 hn x.p y2.p (HFI.out.on x hxm) (HFI.out.on y2 hym) x.g y2.g x.c y2.c x.f y2.f wi.drew (HRX.out.block rfl) (HRY.out.block rfl) hxy)
            have HAL := Lib.hid (show AllOn n [x.p, y2.p] by intro q hq; simp at hq; rcases hq with rfl | rfl; exact HFI.out.on x hxm; exact HFI.out.on y2 hym)
            have hle1 := HRX.out.le
            have hle2 := HRY.out.le
            have hca1 := HRX.out.cap
            have hca2 := HRY.out.cap
            unfold maxLen at hca1 hca2
            have hj0 : (0 : Int) ≤ (j : Int) := by omega
            have hjm : (j : Int) < (m : Int) + 1 := by omega
            have hjm2 : (j : Int) + 1 < (m : Int) + 1 := by omega
            have hjm3 : j < m := by omega
            have hjm4 : (j : Int) < (m : Int) := by omega
            have hjm5 : (0 : Int) ≤ (j : Int) + 1 := by omega
            have hjm6 : j < m + 1 := by omega
            have hjb : j < 1000000 := by omega
            have hwr : IntKind.wrap .i64 ((j : Int) + 1) = (j : Int) + 1 := by unfold IntKind.wrap; simp [IntKind.bits, IntKind.signed]; omega
            clear hx hy hxm hym hxy
            go_upto_region 7 with fail
            go_cut [43] from 24 to 43 (fun s43 wx => ∃ (ch : Bool) (p' q' : Pm) (f' h' : Nat → Value), s43 = .bool ch ∧ Hid (Rch n [x.p, y2.p] [p', q']) ∧ Hid (∀ k, 1 ≤ k → k < n → q'.start k → p'.fin k) ∧ Hid (ch = false → p' = x.p ∧ q' = y2.p) ∧ Hid (ch = true → Rch1 n [x.p, y2.p] [p', q']) ∧ Hid (RowP n wx x.g x.c p' f') ∧ Hid (RowP n wx y2.g y2.c q' h') ∧ Hid (Tch (fun b => b = x.g ∨ b = y2.g) wi wx))
            case first =>
              go_region_with ((go_at_call 105; refine HWQ.out.mono ?_; rintro e w2 ⟨ch, p', q', f', h', rfl, k1, k2, k3, k4, k5, k6, k7⟩; have K1 := Lib.hid k1; have K2 := Lib.hid k2; have K3 := Lib.hid k3; have K4 := Lib.hid k4; have K5 := Lib.hid k5; have K6 := Lib.hid k6; have K7 := Lib.hid k7; clear k1 k2 k3 k4 k5 k6 k7))
              all_goals
                go_wp2
                go_meet
                case rel => exact ⟨ch, p', q', f', h', rfl, K1.out, K2.out, K3.out, K4.out, K5.out, K6.out, (Tch.refl _ wi).drew.trans K7.out⟩
            case rest =>
              obtain ⟨ch, p', q', f', h', rfl, K1, K2, K3, K4, K5, K6, K7⟩ := hcut
              obtain ⟨wy, rfl⟩ : ∃ x : World, x = wc := ⟨_, rfl⟩
              have HAL2 := Lib.hid (HAL.out.rch K1.out)
              have hxm := List.mem_of_getElem? HX.out
              have hym := List.mem_of_getElem? HYY.out
              have HF3 := Lib.hid (HFI.out.two HX.out HYY.out K5.out K6.out (HAL2.out p' (by simp)) (HAL2.out q' (by simp)) K7.out)
              have HB3 := Lib.hid (HBI.out.block (K7.out.block gb HBI.out.lt (by rintro (e | e); exact (HFI.out.ob x hxm).2 e.symm; exact (HFI.out.ob y2 hym).2 e.symm)))
              have HLX := Lib.hid (HFI.out.lo x hxm)
              have HLY := Lib.hid (HFI.out.lo y2 hym)
              have HW3 := Lib.hid (HWI.out.trans (K7.out.below (B := lo) (fun k hk => by rcases hk with rfl | rfl; exact HLX.out; exact HLY.out) (by have := HBI.out.lt; omega)))
              have HMX : Hid ((H2.map Fh.p)[j]? = some x.p) := by unfold Hid; rw [List.getElem?_map, HX.out]; rfl
              have HMY : Hid ((H2.map Fh.p)[j + 1]? = some y2.p) := by unfold Hid; rw [List.getElem?_map, HYY.out]; rfl
              have HMP : Hid (((H2.set j ⟨x.g, x.c, p', f'⟩).set (j + 1) ⟨y2.g, y2.c, q', h'⟩).map Fh.p = ((H2.map Fh.p).set j p').set (j + 1) q') := by unfold Hid; rw [List.map_set, List.map_set]
              have HRC := Lib.hid (rch_at K1.out HMX.out HMY.out)
              have HL3 : Hid (((H2.set j ⟨x.g, x.c, p', f'⟩).set (j + 1) ⟨y2.g, y2.c, q', h'⟩).length = m + 1) := by unfold Hid; rw [List.length_set, List.length_set]; exact HL2.out
              clear hxm hym
              generalize (H2.set j ⟨x.g, x.c, p', f'⟩).set (j + 1) ⟨y2.g, y2.c, q', h'⟩ = H3 at *
              cases ch
              · obtain ⟨rfl, rfl⟩ := K3.out rfl
                have HSM : Hid (H3.map Fh.p = H2.map Fh.p) := by unfold Hid; rw [HMP.out, set_same HMX.out, set_same HMY.out]
                go_wp2
                go_roundg j
                case measure => rw [HGJ.out]; omega
                case rel =>
                  exact ⟨cx, H3, j, rfl, rfl, rfl, by omega, HB3.out, HF3.out, HL3.out, by unfold Hid; rw [HSM.out]; exact HR2.out, fun h => (by obtain ⟨e, hs⟩ := HS2.out h; exact ⟨by rw [HSM.out, e], hs.next (by rw [← e]; exact HMX.out) (by rw [← e]; exact HMY.out) K2.out⟩), fun h => (by rw [HSM.out]; exact HT2.out h), HW3.out⟩
              · have HR1C := Lib.hid (rch1_at (K4.out rfl) HMX.out HMY.out)
                go_wp2
                go_roundg j
                case measure => rw [HGJ.out]; omega
                case rel =>
                  exact ⟨true, H3, j, rfl, rfl, rfl, by omega, HB3.out, HF3.out, HL3.out, by unfold Hid; rw [HMP.out]; exact HR2.out.trans HRC.out, fun h => (by cases h), fun _ => (by rw [HMP.out]; exact Rch1.after HR2.out HR1C.out), HW3.out⟩

end Go.Proofs.Ytfeonaocmnpkcaa
