/-
  Texts joined: GarN, GarO, GarP, GarQ.
-/
import Derived.Test.YtccdnmafakaleaaGreatDoorPk5
import Derived.Deep.RegionLaw
import Derived.Test.YtccdnmafakaleaaGreatDoorPk3
import Derived.Test.YtccdnmafakaleaaGreatDoorPk1
import Derived.Test.YtccdnmafakaleaaGreatDoorBraidV
/-
  A permutation behind a normal form, of the program: times.
-/
namespace Go.Proofs.YtccdnmafakaleaaGreatDoor
set_option linter.unusedVariables false
set_option linter.unusedSimpArgs false
open Go.RowKit

theorem Rch1.rch {n : Nat} {L L' : List Pm} (h : Rch1 n L L') : Rch n L L' := by
  obtain ⟨M, h1, h2⟩ := h
  exact .head h1 h2
theorem Rch1.after {n : Nat} {L L' L'' : List Pm} (h : Rch n L L') (k : Rch1 n L' L'') : Rch1 n L L'' := by
  cases h with
  | refl => exact k
  | head hm hr => exact ⟨_, hm, hr.trans k.rch⟩
theorem Rch1.trans {n : Nat} {L L' L'' : List Pm} (h : Rch1 n L L') (k : Rch n L' L'') : Rch1 n L L'' := by
  obtain ⟨M, h1, h2⟩ := h
  exact ⟨M, h1, h2.trans k⟩
theorem rch_at {n : Nat} {p q p' q' : Pm} (h : Rch n [p, q] [p', q']) : ∀ {L : List Pm} {i : Nat}, L[i]? = some p → L[i + 1]? = some q → Rch n L ((L.set i p').set (i + 1) q')
  | [], i, h1, _ => by simp at h1
  | [a], i, _, h2 => by simp at h2
  | a :: b :: L, 0, h1, h2 => by
    simp at h1 h2
    subst h1 h2
    exact h.appR L
  | a :: b :: L, i + 1, h1, h2 => by
    rw [List.set_cons_succ, List.set_cons_succ]
    exact (rch_at h (L := b :: L) (i := i) (by simpa using h1) (by simpa using h2)).cons a
theorem rch1_at {n : Nat} {p q p' q' : Pm} (h : Rch1 n [p, q] [p', q']) : ∀ {L : List Pm} {i : Nat}, L[i]? = some p → L[i + 1]? = some q → Rch1 n L ((L.set i p').set (i + 1) q')
  | [], i, h1, _ => by simp at h1
  | [a], i, _, h2 => by simp at h2
  | a :: b :: L, 0, h1, h2 => by
    simp at h1 h2
    subst h1 h2
    obtain ⟨M, h3, h4⟩ := h
    exact ⟨M ++ L, h3.appR L, h4.appR L⟩
  | a :: b :: L, i + 1, h1, h2 => by
    rw [List.set_cons_succ, List.set_cons_succ]
    obtain ⟨M, h3, h4⟩ := rch1_at h (L := b :: L) (i := i) (by simpa using h1) (by simpa using h2)
    exact ⟨a :: M, .cons h3, h4.cons a⟩

theorem Fac.lt {n lo gb : Nat} {w : World} {v : Value} {H : List Fh} (h : Fac n lo gb w v H) {g : Nat} (hg : v.ownBlock = some g) : lo ≤ g ∧ g < w.heap.size := h.off.lt g hg
/-- A factor more. -/
theorem Fac.snoc {n lo gb : Nat} {w w' : World} {v v' : Value} {H : List Fh} {y : Fh} {o : Obj} (h : Fac n lo gb w v H) (hgb : gb < w.heap.size) (hr : RowP n w y.g y.c y.p y.f) (hon : y.p.On n) (hlo : lo ≤ y.g)
    (hv : v.ownBlock ≠ some y.g) (hyb : y.g ≠ gb) (hne : ∀ x ∈ H, x.g ≠ y.g) (ho : OffRow w' lo 37 v' (H.length + 1) (H.map (Fh.hd n) ++ [y.hd n])) (hg : (w.alloc o).grownBy w' v.ownBlock)
    (hat : v'.ownBlock = v.ownBlock ∨ v'.ownBlock = some (w.alloc o).heap.size) : Fac n lo gb w' v' (H ++ [y]) := by
  have hsz : (w.alloc o).heap.size = w.heap.size + 1 := by simp
  have hblk : ∀ k, k < w.heap.size → v.ownBlock ≠ some k → w'.heap[k]? = w.heap[k]? := fun k hk hn => (hg.block k (by omega) (fun e => hn e.symm)).trans (heap_alloc_old w o hk)
  have hnv : ∀ k, k < w.heap.size → v.ownBlock ≠ some k → v'.ownBlock ≠ some k := by
    intro k hk hn e
    rcases hat with h1 | h1
    · exact hn (h1 ▸ e)
    · rw [h1, hsz] at e
      injection e with e
      omega
  refine ⟨?_, fun x hx => ?_, fun x hx => ?_, fun x hx => ?_, fun x hx => ?_, ?_, hnv gb hgb h.vb⟩
  · rw [List.length_append, List.map_append]
    exact ho
  · rcases List.mem_append.1 hx with h1 | h1
    · exact (h.row x h1).block (hblk _ (h.row x h1).lt fun e => (h.ob x h1).1 e.symm)
    · simp at h1
      subst h1
      exact hr.block (hblk _ hr.lt hv)
  · rcases List.mem_append.1 hx with h1 | h1
    · exact h.on x h1
    · simp at h1
      subst h1
      exact hon
  · rcases List.mem_append.1 hx with h1 | h1
    · exact h.lo x h1
    · simp at h1
      subst h1
      exact hlo
  · rcases List.mem_append.1 hx with h1 | h1
    · exact ⟨fun e => hnv _ (h.row x h1).lt (fun e2 => (h.ob x h1).1 e2.symm) e.symm, (h.ob x h1).2⟩
    · simp at h1
      subst h1
      exact ⟨fun e => hnv _ hr.lt hv e.symm, hyb⟩
  · rw [List.map_append]
    refine List.nodup_append.2 ⟨h.nd, by simp, fun a ha b hb => ?_⟩
    obtain ⟨x, hx, rfl⟩ := List.mem_map.1 ha
    simp at hb
    subst hb
    exact hne x hx
/-- Two factors side by side written in place. -/
theorem Fac.two {n lo gb i : Nat} {w w' : World} {v : Value} {H : List Fh} {x y : Fh} {p' q' : Pm} {f' h' : Nat → Value} (h : Fac n lo gb w v H) (hx : H[i]? = some x) (hy : H[i + 1]? = some y) (hp : RowP n w' x.g x.c p' f') (hq : RowP n w' y.g y.c q' h')
    (hpo : p'.On n) (hqo : q'.On n) (ht : Tch (fun b => b = x.g ∨ b = y.g) w w') : Fac n lo gb w' v ((H.set i ⟨x.g, x.c, p', f'⟩).set (i + 1) ⟨y.g, y.c, q', h'⟩) := by
  have hil := (List.getElem?_eq_some_iff.1 hx).1
  have hjl := (List.getElem?_eq_some_iff.1 hy).1
  have hxm := List.mem_of_getElem? hx
  have hym := List.mem_of_getElem? hy
  have same : ∀ {β : Type} (F : Fh → β), F ⟨x.g, x.c, p', f'⟩ = F x → F ⟨y.g, y.c, q', h'⟩ = F y → ((H.set i ⟨x.g, x.c, p', f'⟩).set (i + 1) ⟨y.g, y.c, q', h'⟩).map F = H.map F := by
    intro β F e1 e2
    refine List.ext_getElem? fun j => ?_
    rw [List.map_set, List.map_set, e1, e2, List.getElem?_set, List.getElem?_set, List.length_set, List.length_map]
    by_cases a : i + 1 = j
    · subst a
      rw [if_pos rfl, if_pos hjl, List.getElem?_map, hy]
      rfl
    · rw [if_neg a]
      by_cases b : i = j
      · subst b
        rw [if_pos rfl, if_pos hil, List.getElem?_map, hx]
        rfl
      · rw [if_neg b]
  have at_ : ∀ z, z ∈ ((H.set i ⟨x.g, x.c, p', f'⟩).set (i + 1) ⟨y.g, y.c, q', h'⟩) → z = ⟨x.g, x.c, p', f'⟩ ∨ z = ⟨y.g, y.c, q', h'⟩ ∨ (z ∈ H ∧ z.g ≠ x.g ∧ z.g ≠ y.g) := by
    intro z hz
    obtain ⟨j, hj⟩ := List.mem_iff_getElem?.1 hz
    rw [List.getElem?_set, List.getElem?_set, List.length_set] at hj
    by_cases a : i + 1 = j
    · rw [if_pos a, if_pos (by omega)] at hj
      injection hj with hj
      exact .inr (.inl hj.symm)
    · rw [if_neg a] at hj
      by_cases b : i = j
      · rw [if_pos b, if_pos (by omega)] at hj
        injection hj with hj
        exact .inl hj.symm
      · rw [if_neg b] at hj
        exact .inr (.inr ⟨List.mem_of_getElem? hj, nodup_at h.nd hj hx (fun e => b e.symm), nodup_at h.nd hj hy (fun e => a e.symm)⟩)
  refine ⟨?_, fun z hz => ?_, fun z hz => ?_, fun z hz => ?_, fun z hz => ?_, ?_, h.vb⟩
  · rw [List.length_set, List.length_set, same (Fh.hd n) rfl rfl]
    exact h.off.block fun g hg hl => ht.block g hl (by rintro (e | e); exact (h.ob x hxm).1 (by rw [hg, e]); exact (h.ob y hym).1 (by rw [hg, e]))
  · rcases at_ z hz with rfl | rfl | ⟨h1, h2, h3⟩
    · exact hp
    · exact hq
    · exact (h.row z h1).block (ht.block _ (h.row z h1).lt (by rintro (e | e); exact h2 e; exact h3 e))
  · rcases at_ z hz with rfl | rfl | ⟨h1, h2, h3⟩
    · exact hpo
    · exact hqo
    · exact h.on z h1
  · rcases at_ z hz with rfl | rfl | ⟨h1, h2, h3⟩
    · exact h.lo x hxm
    · exact h.lo y hym
    · exact h.lo z h1
  · rcases at_ z hz with rfl | rfl | ⟨h1, h2, h3⟩
    · exact h.ob x hxm
    · exact h.ob y hym
    · exact h.ob z h1
  · rw [same Fh.g rfl rfl]
    exact h.nd

/-- No letter can move from the k-th place on. -/
def Suff (n : Nat) (L : List Pm) (k : Nat) : Prop := ∀ (i : Nat) (p q : Pm), k ≤ i → L[i]? = some p → L[i + 1]? = some q → ∀ s, 1 ≤ s → s < n → q.start s → p.fin s
theorem Suff.sett {n : Nat} {L : List Pm} (h : Suff n L 0) : Sett n L := sett_of_pref (j := L.length) (by omega) fun i p q _ h1 h2 => h i p q (Nat.zero_le _) h1 h2
theorem Suff.next {n : Nat} {L : List Pm} {j : Nat} {p q : Pm} (h : Suff n L (j + 1)) (hp : L[j]? = some p) (hq : L[j + 1]? = some q) (hs : ∀ k, 1 ≤ k → k < n → q.start k → p.fin k) : Suff n L j := by
  intro i a b hi h1 h2
  by_cases hij : i = j
  · subst hij
    rw [hp] at h1
    rw [hq] at h2
    injection h1 with h1
    injection h2 with h2
    subst h1 h2
    exact hs
  · exact h i a b (by omega) h1 h2
theorem set_same {α : Type} {L : List α} {i : Nat} {a : α} (h : L[i]? = some a) : L.set i a = L := by
  obtain ⟨hi, e⟩ := List.getElem?_eq_some_iff.1 h
  rw [← e, List.set_getElem_self]
/-- Two factors side by side. -/
theorem Fac.get2 {n lo gb : Nat} {w : World} {A : Option Addr} {m c : Nat} {H : List Fh} (h : Fac n lo gb w (.slice A m c) H) {k : Nat} (hk : k + 1 < H.length) :
    ∃ g off x y, A = some ⟨g, off, none⟩ ∧ H[k]? = some x ∧ H[k + 1]? = some y ∧ w.cell? ⟨g, off + k, none⟩ = some (.slice (some ⟨x.g, 0, none⟩) n x.c) ∧ w.cell? ⟨g, off + (k + 1), none⟩ = some (.slice (some ⟨y.g, 0, none⟩) n y.c) ∧ x.g ≠ y.g := by
  obtain ⟨g, off, cap, x, e, h1, _, h2, _⟩ := h.get (k := k) (by omega)
  obtain ⟨g', off', cap', y, e', h1', _, h2', _⟩ := h.get (k := k + 1) hk
  rw [e] at e'
  injection e with e1 _ _
  injection e' with e2 _ _
  injection e2 with e2
  injection e2 with e3 e4
  subst e3 e4
  exact ⟨g, off, x, y, e1, h1, h1', h2, h2', nodup_at h.nd h1 h1' (by omega)⟩
set_option maxHeartbeats 4000000 in
set_option maxRecDepth 100000 in
theorem times_any (n : Nat) (hn2 : 2 ≤ n) (hn : n ≤ 12) (lo gb : Nat) (pw : Int) (v : Value) (H : List Fh) (p : Pm) (u : Value) (w : World) (hbx : BoxN n gb w pw v) (hfc : Fac n lo gb w v H) (hlo : lo ≤ gb)
    (hu : RdI w w.heap.size u (lst n p)) (hpo : p.On n) (hp0 : -1000000 ≤ pw) (hp1 : pw ≤ 1000000) (hlen : H.length ≤ 900000) :
    Calls Tryz.prog 70 #[.pointer (some ⟨gb, 0, none⟩), u] w fun e w' => e = .returned (.tuple #[]) ∧ ∃ (a : Nat) (v' : Value) (H' : List Fh), BoxN n gb w' (pw + a) v' ∧ Fac n lo gb w' v' H' ∧ Nrm n (H.map Fh.p ++ [p]) a (H'.map Fh.p) ∧ Below lo w w' := by
  obtain ⟨i0, hi, hy0, hy1, hy2⟩ := info_parts info_hd
  have HBX := Lib.hid hbx
  have HFC := Lib.hid hfc
  have hgb := hbx.lt
  have HQ := Lib.hid (cloneI_any u (lst n p) w.drew hu (by rw [lst_len]; omega))
  obtain ⟨-, -, d2⟩ := hbx.cells
  obtain ⟨A, c, rfl, hmc, hcm⟩ := hfc.off.shape
  obtain ⟨Au, cu, rfl⟩ := hu.len
  have hvb := hfc.vb
  have hone : Hid (∀ z ∈ H.map (Fh.hd n), z.oneCell' = true) := fun z hz => by obtain ⟨x, _, rfl⟩ := List.mem_map.1 hz; rfl
  generalize hm : H.length = m at *
  have HM := Lib.hid hm
  unfold maxLen at hcm
  clear hbx hfc hu hm
  go_enter Tryz.func70, Tryz.ntmps70
  go_upto_region 0 with fail
  go_cut [] from 6 (fun wc => ∃ (v1 : Value) (y : Fh), Hid (BoxN n gb wc pw v1) ∧ Hid (Fac n lo gb wc v1 (H ++ [y])) ∧ Hid (y.p = p) ∧ Hid (Below lo w wc))
  case first =>
    go_region_law ((first | (refine step_append_off _ rfl _ _ _ rfl lo 37 i0 _ 24 Tryz.underlying72 hi hy0 hy1 hy2 rfl _ m (H.map (Fh.hd n)) (by rfl) HO1.out hone.out ⟨w1.heap.size, 0, none⟩ 1 (.slice (some ⟨g1, 0, none⟩) n cap1) (by rfl) (by simp [go_sem]) rfl (by omega) (by omega) (by simp; omega) ?_; intro v2 w2 hown2 hg2 hat2; obtain ⟨A2, c2, rfl, -⟩ := hown2.shape; have x2 : w2.cell? ⟨gb, 2, none⟩ = some (.slice A m c) := (hg2.cell_far ⟨gb, 2, none⟩ (by simp; omega) (Ne.symm hvb)).trans ((((Below.refl w1.heap.size w1).alloc (Nat.le_refl _) _).cell (p := ⟨gb, 2, none⟩) hgb1).trans q2); have f2 : w2.frozen? ⟨gb, 2, none⟩ = false := (hg2.frozen_far ⟨gb, 2, none⟩ (by simp; omega) (Ne.symm hvb)).trans ((((Below.refl w1.heap.size w1).alloc (Nat.le_refl _) _).frozen (p := ⟨gb, 2, none⟩) hgb1).trans qf)) | (go_simp; go_wp2_with ((go_at_call 86; refine HQ.out.mono ?_; rintro e w1 ⟨v1, rfl, ho1, hb1⟩; obtain ⟨g1, cap1, F1, rfl, hlo1, hhi1, hrow1, hnc1, hcap1, hval1⟩ := own_lst ho1 (by omega); simp only [lst_len] at *; have hb2 : Below w.heap.size w w1 := (Below.refl w.heap.size w).drew.trans hb1; have q2 := (hb2.cell (p := ⟨gb, 2, none⟩) hgb).trans d2; have qf : w1.frozen? ⟨gb, 2, none⟩ = false := ((bcell hb2).2 _ _ hgb).trans (HBX.out.frozen 2); have hgb1 : gb < w1.heap.size := (by have := hb2.size; omega); have HR1 := Lib.hid (show RowP n w1 g1 cap1 p F1 from ⟨hrow1, hnc1, hcap1, hval1⟩); have HB2 := Lib.hid hb2; have HG1 := Lib.hid (show w.heap.size ≤ g1 from hlo1); have hsz1 := hb2.size; have HO1 := Lib.hid ((HM.out ▸ (HFC.out.below hb2).off : OffRow w1 lo 37 (.slice A m c) m (H.map (Fh.hd n))).block (w' := w1.alloc (.cells #[.slice (some ⟨g1, 0, none⟩) n cap1] 37)) fun g hg hl => heap_alloc_old w1 _ hl); clear hb1 hb2 ho1 hrow1 hval1)))))
    all_goals
      have HW2 := Lib.hid (((HB2.out.mono (B' := lo) (by omega)).alloc (by omega) (.cells #[.slice (some ⟨g1, 0, none⟩) n cap1] 37)).grown hg2 (by simp; omega) (fun kk hkk => (HFC.out.lt hkk).1))
      have HF2 := Lib.hid (Fac.snoc (y := ⟨g1, cap1, p, F1⟩) (HFC.out.below HB2.out) hgb1 HR1.out hpo (by have := HG1.out; show lo ≤ g1; omega) (fun e => by have h9 : g1 < w.heap.size := (HFC.out.lt e).2; have := HG1.out; omega) (by have := HG1.out; show g1 ≠ gb; omega) (fun x hx => by have := (HFC.out.row x hx).lt; have := HG1.out; show x.g ≠ g1; omega) (by rw [HM.out]; exact hown2) hg2 hat2)
      have HX2 := Lib.hid (HBX.out.block (((hg2.block gb (by simp; omega) (Ne.symm hvb)).trans (heap_alloc_old w1 _ hgb1)).trans (HB2.out.block gb hgb)))
      clear hg2 hat2 hown2
      go_wp2
      go_meet
      case rel => exact ⟨_, ⟨g1, cap1, p, F1⟩, HX2.out.fac _, HF2.out.box rfl _, rfl, HW2.out.setCell (p := ⟨gb, 2, none⟩) hlo _⟩
  case rest =>
    obtain ⟨v1, y, HB1, HF1, HY, HW1⟩ := hcut
    obtain ⟨wa, rfl⟩ : ∃ x : World, x = wc := ⟨_, rfl⟩
    obtain ⟨A1, c1, rfl, hmc1, hcm1⟩ := HF1.out.off.shape
    have HL0 : Hid ((H ++ [y]).length = m + 1) := by unfold Hid; rw [List.length_append, HM.out]; rfl
    have HP0 : Hid ((H ++ [y]).map Fh.p = H.map Fh.p ++ [p]) := by unfold Hid; rw [List.map_append, List.map_cons, HY.out]; rfl
    rw [HL0.out] at HB1 HF1 hmc1
    generalize H ++ [y] = H0 at *
    unfold maxLen at hcm1
    clear d2 hmc hcm hvb hone HQ
    go_wp2
    go_loopg [4] (mes n (H0.map Fh.p) + 1) (fun gk s4 wr => ∃ (ch : Bool) (H1 : List Fh), s4 = .bool ch ∧ Hid (gk = if ch then mes n (H1.map Fh.p) + 1 else 0) ∧ Hid (BoxN n gb wr pw (.slice A1 (m + 1) c1)) ∧ Hid (Fac n lo gb wr (.slice A1 (m + 1) c1) H1) ∧ Hid (H1.length = m + 1) ∧ Hid (Rch n (H0.map Fh.p) (H1.map Fh.p)) ∧ Hid (ch = false → Sett n (H1.map Fh.p)) ∧ Hid (Below lo w wr))
    case atStart => exact ⟨true, H0, rfl, rfl, HB1.out, HF1.out, HL0.out, .refl, fun h => (by cases h), HW1.out⟩
    case round =>
      obtain ⟨wo, rfl⟩ : ∃ x : World, x = wr := ⟨_, rfl⟩
      obtain ⟨ch, H1, rfl, HG, HBO, HFO, HL1, HR1, HS1, HWO⟩ := hrel
      obtain ⟨gko, rfl⟩ : ∃ x : Nat, x = gk := ⟨_, rfl⟩
      have HON := Lib.hid (show AllOn n (H1.map Fh.p) by intro q hq; obtain ⟨z, hz, rfl⟩ := List.mem_map.1 hq; exact HFO.out.on z hz)
      cases ch
      · have HSE := Lib.hid (HS1.out rfl)
        have HTQ := Lib.hid (tidy_any n hn2 hn lo gb pw _ H1 wo HBO.out HFO.out hlo HSE.out hp0 hp1 (by rw [HL1.out]; omega))
        go_wp2_with fail
        refine HTQ.out.mono ?_
        rintro e w2 ⟨rfl, a, b, v', H', hbx', hfc', he, hgd, hbl⟩
        have HE := Lib.hid (show BoxN n gb w2 (pw + a) v' ∧ Fac n lo gb w2 v' H' ∧ Nrm n (H.map Fh.p ++ [p]) a (H'.map Fh.p) ∧ Below lo w w2 from ⟨hbx', hfc', ⟨hgd, b, by rw [← he, ← HP0.out]; exact HR1.out, by rw [← he]; exact HSE.out⟩, HWO.out.trans hbl⟩)
        clear hbx' hfc' he hgd hbl
        go_wp2
        go_end0
        exact ⟨rfl, a, v', H', HE.out⟩
      · obtain ⟨-, -, d2⟩ := HBO.out.cells
        go_wp2
        go_loopg [4, 5] m (fun gj s4 s5 wi => ∃ (cx : Bool) (H2 : List Fh) (k : Nat), s4 = .bool cx ∧ s5 = .int .i64 ((k : Int) - 1) ∧ Hid (gj = k) ∧ k ≤ m ∧ Hid (BoxN n gb wi pw (.slice A1 (m + 1) c1)) ∧ Hid (Fac n lo gb wi (.slice A1 (m + 1) c1) H2) ∧ Hid (H2.length = m + 1) ∧
          Hid (Rch n (H1.map Fh.p) (H2.map Fh.p)) ∧ Hid (cx = false → H2.map Fh.p = H1.map Fh.p ∧ Suff n (H1.map Fh.p) k) ∧ Hid (cx = true → Rch1 n (H1.map Fh.p) (H2.map Fh.p)) ∧ Hid (Below lo w wi))
        case atStart => exact ⟨false, H1, m, rfl, by simp; omega, rfl, Nat.le_refl _, HBO.out, HFO.out, HL1.out, .refl, fun _ => ⟨rfl, fun i a b hi h1 h2 => absurd (List.getElem?_eq_some_iff.1 h2).1 (by rw [List.length_map, HL1.out]; omega)⟩, fun h => (by cases h), HWO.out⟩
        case round =>
          obtain ⟨wi, rfl⟩ : ∃ x : World, x = wr := ⟨_, rfl⟩
          obtain ⟨cx, H2, k, rfl, h5, HGJ, hk, HBI, HFI, HL2, HR2, HS2, HT2, HWI⟩ := hrel
          obtain ⟨gji, rfl⟩ : ∃ x : Nat, x = gk := ⟨_, rfl⟩
          cases k with
          | zero =>
            simp only [Int.ofNat_zero, Int.zero_sub] at h5
            subst h5
            go_wp2
            go_roundg (if cx then mes n (H2.map Fh.p) + 1 else 0)
            case measure =>
              rw [HG.out]
              cases cx
              · simp
              · have := (HT2.out rfl).mes HON.out
                simp
                omega
            case rel => exact ⟨cx, H2, rfl, rfl, HBI.out, HFI.out, HL2.out, HR1.out.trans HR2.out, fun h => (by obtain ⟨e, hs⟩ := HS2.out h; rw [e]; exact hs.sett), HWI.out⟩
          | succ j =>
            have h6 : (((j + 1 : Nat) : Int) - 1) = j := by omega
            rw [h6] at h5
            subst h5
            clear h6
            obtain ⟨g, off, x, y2, e, hx, hy, c0, c1', hxy⟩ := HFI.out.get2 (k := j) (by rw [HL2.out]; omega)
            subst e
            obtain ⟨-, -, d2⟩ := HBI.out.cells
            have HX := Lib.hid hx
            have HYY := Lib.hid hy
            have hxm := List.mem_of_getElem? hx
            have hym := List.mem_of_getElem? hy
            have HRX := Lib.hid (HFI.out.row x hxm)
            have HRY := Lib.hid (HFI.out.row y2 hym)
            have HXY := Lib.hid hxy
            have HWQ := Lib.hid (weigh_any n hn2 hn x.p y2.p (HFI.out.on x hxm) (HFI.out.on y2 hym) x.g y2.g x.c y2.c x.f y2.f wi.drew (HRX.out.block rfl) (HRY.out.block rfl) hxy)
            have HAL := Lib.hid (show AllOn n [x.p, y2.p] by intro q hq; simp at hq; rcases hq with rfl | rfl; exact HFI.out.on x hxm; exact HFI.out.on y2 hym)
            have hle1 := HRX.out.le
            have hle2 := HRY.out.le
            have hca1 := HRX.out.cap
            have hca2 := HRY.out.cap
            unfold maxLen at hca1 hca2
            have hj0 : (0 : Int) ≤ (j : Int) := by omega
            have hjm : (j : Int) < (m : Int) + 1 := by omega
            have hjm2 : (j : Int) + 1 < (m : Int) + 1 := by omega
            have hjm3 : j < m := by omega
            have hjm4 : (j : Int) < (m : Int) := by omega
            have hjm5 : (0 : Int) ≤ (j : Int) + 1 := by omega
            have hjm6 : j < m + 1 := by omega
            have hjb : j < 1000000 := by omega
            have hwr : IntKind.wrap .i64 ((j : Int) + 1) = (j : Int) + 1 := by unfold IntKind.wrap; simp [IntKind.bits, IntKind.signed]; omega
            clear hx hy hxm hym hxy
            go_upto_region 7 with fail
            go_cut [43] from 24 to 43 (fun s43 wx => ∃ (ch : Bool) (p' q' : Pm) (f' h' : Nat → Value), s43 = .bool ch ∧ Hid (Rch n [x.p, y2.p] [p', q']) ∧ Hid (∀ k, 1 ≤ k → k < n → q'.start k → p'.fin k) ∧ Hid (ch = false → p' = x.p ∧ q' = y2.p) ∧ Hid (ch = true → Rch1 n [x.p, y2.p] [p', q']) ∧ Hid (RowP n wx x.g x.c p' f') ∧ Hid (RowP n wx y2.g y2.c q' h') ∧ Hid (Tch (fun b => b = x.g ∨ b = y2.g) wi wx))
            case first =>
              go_region_with ((go_at_call 87; refine HWQ.out.mono ?_; rintro e w2 ⟨ch, p', q', f', h', rfl, k1, k2, k3, k4, k5, k6, k7⟩; have K1 := Lib.hid k1; have K2 := Lib.hid k2; have K3 := Lib.hid k3; have K4 := Lib.hid k4; have K5 := Lib.hid k5; have K6 := Lib.hid k6; have K7 := Lib.hid k7; clear k1 k2 k3 k4 k5 k6 k7))
              all_goals
                go_wp2
                go_meet
                case rel => exact ⟨ch, p', q', f', h', rfl, K1.out, K2.out, K3.out, K4.out, K5.out, K6.out, (Tch.refl _ wi).drew.trans K7.out⟩
            case rest =>
              obtain ⟨ch, p', q', f', h', rfl, K1, K2, K3, K4, K5, K6, K7⟩ := hcut
              obtain ⟨wy, rfl⟩ : ∃ x : World, x = wc := ⟨_, rfl⟩
              have HAL2 := Lib.hid (HAL.out.rch K1.out)
              have hxm := List.mem_of_getElem? HX.out
              have hym := List.mem_of_getElem? HYY.out
              have HF3 := Lib.hid (HFI.out.two HX.out HYY.out K5.out K6.out (HAL2.out p' (by simp)) (HAL2.out q' (by simp)) K7.out)
              have HB3 := Lib.hid (HBI.out.block (K7.out.block gb HBI.out.lt (by rintro (e | e); exact (HFI.out.ob x hxm).2 e.symm; exact (HFI.out.ob y2 hym).2 e.symm)))
              have HLX := Lib.hid (HFI.out.lo x hxm)
              have HLY := Lib.hid (HFI.out.lo y2 hym)
              have HW3 := Lib.hid (HWI.out.trans (K7.out.below (B := lo) (fun k hk => by rcases hk with rfl | rfl; exact HLX.out; exact HLY.out) (by have := HBI.out.lt; omega)))
              have HMX : Hid ((H2.map Fh.p)[j]? = some x.p) := by unfold Hid; rw [List.getElem?_map, HX.out]; rfl
              have HMY : Hid ((H2.map Fh.p)[j + 1]? = some y2.p) := by unfold Hid; rw [List.getElem?_map, HYY.out]; rfl
              have HMP : Hid (((H2.set j ⟨x.g, x.c, p', f'⟩).set (j + 1) ⟨y2.g, y2.c, q', h'⟩).map Fh.p = ((H2.map Fh.p).set j p').set (j + 1) q') := by unfold Hid; rw [List.map_set, List.map_set]
              have HRC := Lib.hid (rch_at K1.out HMX.out HMY.out)
              have HL3 : Hid (((H2.set j ⟨x.g, x.c, p', f'⟩).set (j + 1) ⟨y2.g, y2.c, q', h'⟩).length = m + 1) := by unfold Hid; rw [List.length_set, List.length_set]; exact HL2.out
              clear hxm hym
              generalize (H2.set j ⟨x.g, x.c, p', f'⟩).set (j + 1) ⟨y2.g, y2.c, q', h'⟩ = H3 at *
              cases ch
              · obtain ⟨rfl, rfl⟩ := K3.out rfl
                have HSM : Hid (H3.map Fh.p = H2.map Fh.p) := by unfold Hid; rw [HMP.out, set_same HMX.out, set_same HMY.out]
                go_wp2
                go_roundg j
                case measure => rw [HGJ.out]; omega
                case rel =>
                  exact ⟨cx, H3, j, rfl, rfl, rfl, by omega, HB3.out, HF3.out, HL3.out, by unfold Hid; rw [HSM.out]; exact HR2.out, fun h => (by obtain ⟨e, hs⟩ := HS2.out h; exact ⟨by rw [HSM.out, e], hs.next (by rw [← e]; exact HMX.out) (by rw [← e]; exact HMY.out) K2.out⟩), fun h => (by rw [HSM.out]; exact HT2.out h), HW3.out⟩
              · have HR1C := Lib.hid (rch1_at (K4.out rfl) HMX.out HMY.out)
                go_wp2
                go_roundg j
                case measure => rw [HGJ.out]; omega
                case rel =>
                  exact ⟨true, H3, j, rfl, rfl, rfl, by omega, HB3.out, HF3.out, HL3.out, by unfold Hid; rw [HMP.out]; exact HR2.out.trans HRC.out, fun h => (by cases h), fun _ => (by rw [HMP.out]; exact Rch1.after HR2.out HR1C.out), HW3.out⟩

end Go.Proofs.YtccdnmafakaleaaGreatDoor

/-
  The program's normal form of a word; when two are the same.
-/
namespace Go.Proofs.YtccdnmafakaleaaGreatDoor
set_option linter.unusedVariables false
set_option linter.unusedSimpArgs false
open Go.RowKit

set_option maxHeartbeats 1000000 in
theorem sameNormF_any (v u : Value) (a b : List Int) (w : World) (hl : RdI w w.heap.size v a) (hm : RdI w w.heap.size u b) :
    Calls Tryz.prog 63 #[v, u] w fun e w' => e = .returned (.bool (decide (a = b))) ∧ Below w.heap.size w w' := by
  have HQ := Lib.hid (eqlInts_any v u a b w _ hl hm (Nat.le_refl _))
  obtain ⟨A, c, rfl⟩ := hl.len
  obtain ⟨A', c', rfl⟩ := hm.len
  clear hl hm
  go_enter Tryz.func63, Tryz.ntmps63
  go_wp2_with fail
  refine HQ.out.mono ?_
  rintro e w1 ⟨rfl, hb⟩
  go_wp2
  go_ret
  exact ⟨rfl, hb⟩

set_option maxHeartbeats 2000000 in
set_option maxRecDepth 100000 in
theorem eqfL2_any (v u : Value) (l m : List (List Int)) (w : World) (hl : RdL2 w w.heap.size v l) (hm : RdL2 w w.heap.size u m) :
    Calls Tryz.prog 62 #[v, u, .func (.func 63) #[] #[]] w fun x w' => x = .returned (.bool (decide (l = m))) ∧ Below w.heap.size w w' := by
  have HLL := Lib.hid hl
  have HMM := Lib.hid hm
  obtain ⟨A, n, c, rfl, hln, hl, -⟩ := hl
  obtain ⟨A', n', c', rfl, hmn, hm, -⟩ := hm
  by_cases hlen : n = n'
  · subst hlen
    go_enter Tryz.func62, Tryz.ntmps62
    go_wp2
    go_loopw [7, 17] (fun _ i wr => ∃ k : Nat, k ≤ n ∧ i = .int .i64 k ∧ Hid (decide (l = m) = decide (l.drop k = m.drop k)) ∧ Below w.heap.size w wr) (fun _ i _ => n - (intOf i).toNat)
    case atStart => exact ⟨0, Nat.zero_le _, rfl, rfl, Below.refl _ _⟩
    case round =>
      rename_i wr
      obtain ⟨k, hk, rfl, hd, hb⟩ := hrel
      by_cases hlt : k < n
      · obtain ⟨b, off, x, s, rfl, hbb, hlk, hc, hs⟩ := HLL.out.at_ hlt
        obtain ⟨b', off', y, t, rfl, hbb', hmk, hc', ht⟩ := HMM.out.at_ hlt
        have e0 := (hb.cell (p := ⟨b, off + k, none⟩) hbb).trans hc
        have e1 := (hb.cell (p := ⟨b', off' + k, none⟩) hbb').trans hc'
        have HQ := Lib.hid (sameNormF_any s t x y wr ((hs.below hb).more hb.size) ((ht.below hb).more hb.size))
        obtain ⟨As, cs, rfl⟩ := hs.len
        obtain ⟨At, ct, rfl⟩ := ht.len
        have HB := Lib.hid hb
        have Hl := Lib.hid hlk
        have Hm := Lib.hid hmk
        clear hc hc' hlk hmk hb hs ht
        cases hxy : decide (x = y)
        all_goals
          have HXY := Lib.hid hxy
          clear hxy
          go_wp2_with fail
          refine HQ.out.mono ?_
          rintro e w1 ⟨rfl, hb1⟩
          rw [HXY.out]
          have HB1 := Lib.hid (HB.out.trans (hb1.mono HB.out.size))
          clear hb1
          go_wp2
          first
          | (go_ret
             exact ⟨ret_bool (by rw [hd.out, drop_of_get Hl.out, drop_of_get Hm.out]; have := HXY.out; simp_all), HB1.out⟩)
          | exact ⟨⟨k + 1, by omega, by go_num, by unfold Hid; rw [hd.out, drop_of_get Hl.out, drop_of_get Hm.out]; have := HXY.out; simp_all, HB1.out⟩, by simp [intOf]; omega⟩
      · have HB := Lib.hid hb
        clear hb
        go_wp2
        go_ret
        exact ⟨ret_bool (by rw [hd.out, List.drop_of_length_le (by have := hl.out; omega), List.drop_of_length_le (by have := hm.out; omega)]; simp), HB.out⟩
  · have hd1 : ((n : Int) != (n' : Int)) = true := by simp; omega
    go_enter Tryz.func62, Tryz.ntmps62
    go_wp2
    go_ret
    exact ⟨ret_bool (by symm; simp; rintro rfl; exact hlen (hl.out.symm.trans hm.out)), Below.refl _ _⟩

/-- The value of a normal form. -/
def RdNF (n : Nat) (w : World) (B : Nat) (v : Value) (s : St) : Prop := ∃ u, v = .agg #[.int .i64 (n : Int), .int .i64 s.p, u] ∧ RdL2 w B u (lstL n s.F)
theorem Fac.rd {n lo gb : Nat} {w : World} {v : Value} {H : List Fh} (h : Fac n lo gb w v H) : RdL2 w w.heap.size v (lstL n (H.map Fh.p)) := by
  obtain ⟨A, c, rfl, h1, h2⟩ := h.off.shape
  unfold maxLen at h2
  refine ⟨A, _, c, rfl, by omega, by simp [Hid, lstL], fun k hk => ?_⟩
  obtain ⟨g, off, cap, x, e, hx, hxm, c0, _, _, _, hg, _⟩ := h.get hk
  injection e with e1 e2 e3
  subst e1 e3
  refine ⟨g, off, lst n x.p, [.slice (some ⟨x.g, 0, none⟩) n x.c], rfl, hg, by simp [lstL, hx], rfl, fun j u hu => ?_, _, rfl, (h.row x hxm).rd⟩
  rcases j with _ | j
  · simp at hu
    subst hu
    simpa using c0
  · simp at hu
theorem isNF_bd {n : Nat} {w : List Int} {s : St} (h : IsNF n w s) : -(w.length : Int) ≤ s.p ∧ s.p ≤ w.length ∧ s.F.length ≤ w.length := by
  obtain ⟨a, h1, h2⟩ := h.ex
  have h3 := h1.len
  rw [raw_len] at h3
  have h4 := pow0_bd w
  omega

theorem lstL_inj {n : Nat} {L M : List Pm} (hL : AllOn n L) (hM : AllOn n M) (h : lstL n L = lstL n M) : L = M := by
  induction L generalizing M with
  | nil =>
    cases M with
    | nil => rfl
    | cons y M => simp [lstL] at h
  | cons x L ih =>
    cases M with
    | nil => simp [lstL] at h
    | cons y M =>
      simp only [lstL, List.map_cons, List.cons.injEq] at h
      rw [lst_inj (hL x (by simp)) (hM y (by simp)) h.1, ih (fun z hz => hL z (List.mem_cons_of_mem _ hz)) (fun z hz => hM z (List.mem_cons_of_mem _ hz)) h.2]
set_option maxHeartbeats 2000000 in
set_option maxRecDepth 100000 in
open Classical in
theorem sameNormal_any (n : Nat) (v u : Value) (s t : St) (w : World) (hs : RdNF n w w.heap.size v s) (ht : RdNF n w w.heap.size u t) (hso : AllOn n s.F) (hto : AllOn n t.F) :
    Calls Tryz.prog 52 #[v, u] w fun e w' => e = .returned (.bool (decide (s = t))) ∧ Below w.heap.size w w' := by
  obtain ⟨vs, rfl, hs⟩ := hs
  obtain ⟨vt, rfl, ht⟩ := ht
  obtain ⟨As, ns, cs, rfl, _, _, _⟩ := (show RdL2 w w.heap.size vs (lstL n s.F) from hs)
  obtain ⟨At, nt, ct, rfl, _, _, _⟩ := (show RdL2 w w.heap.size vt (lstL n t.F) from ht)
  have HW0 := Lib.hid (show Below w.heap.size w ((w.alloc (.cells #[.int .i64 (n : Int), .int .i64 s.p, .slice As ns cs] 74)).alloc (.cells #[.int .i64 (n : Int), .int .i64 t.p, .slice At nt ct] 74)) from ((Below.refl _ _).alloc (Nat.le_refl _) _).alloc (by simp) _)
  have HQ := Lib.hid (eqfL2_any _ _ _ _ _ ((hs.below HW0.out).more HW0.out.size) ((ht.below HW0.out).more HW0.out.size))
  have HD : Hid (decide (s = t) = (decide (s.p = t.p) && decide (lstL n s.F = lstL n t.F))) := by
    unfold Hid
    rw [Bool.eq_iff_iff]
    simp only [Bool.and_eq_true, decide_eq_true_eq]
    constructor
    · rintro rfl; exact ⟨rfl, rfl⟩
    · rintro ⟨h1, h2⟩
      have h3 := lstL_inj hso hto h2
      obtain ⟨p, F⟩ := s
      obtain ⟨q, G⟩ := t
      simp only at h1 h3
      rw [h1, h3]
  clear hs ht
  by_cases hpq : s.p = t.p
  · rw [hpq] at HQ HW0 HD ⊢
    go_enter Tryz.func52, Tryz.ntmps52
    go_wp2_with fail
    refine HQ.out.mono ?_
    rintro e w1 ⟨rfl, hb⟩
    have HB := Lib.hid (HW0.out.trans (hb.mono HW0.out.size))
    clear hb
    go_wp2
    go_ret
    exact ⟨ret_bool (by rw [HD.out]; simp), HB.out⟩
  · have hne : (s.p == t.p) = false := by simpa using hpq
    have HD2 : Hid (decide (s = t) = false) := by unfold Hid; rw [HD.out]; simp [hpq]
    clear HD hpq
    go_enter Tryz.func52, Tryz.ntmps52
    go_wp2
    go_ret
    exact ⟨ret_bool HD2.out.symm, HW0.out⟩

end Go.Proofs.YtccdnmafakaleaaGreatDoor

/-
  The normal form of a word, of the program.
-/
namespace Go.Proofs.YtccdnmafakaleaaGreatDoor
set_option linter.unusedVariables false
set_option linter.unusedSimpArgs false
open Go.RowKit

theorem comp_behind (n k : Nat) (hk : 1 ≤ k) : (Pm.half n).comp (Pm.one.behind k hk) = (Pm.half n).behind k hk := Pm.ext' fun i => rfl

set_option maxHeartbeats 8000000 in
set_option maxRecDepth 100000 in
theorem normalOf_any (n : Nat) (hn : n ≤ 12) (l : List Int) (hl : LetsN n l) (hlen : l.length ≤ 5000) (v : Value) (w : World) (hv : RdI w w.heap.size v l) :
    Calls Tryz.prog 53 #[.int .i64 (n : Int), v] w fun e w' => ∃ (s : St) (u : Value), e = .returned u ∧ RdNF n w' w'.heap.size u s ∧ IsNF n l s ∧ Below w.heap.size w w' := by
  obtain ⟨A, c, rfl⟩ := hv.len
  have HL := Lib.hid hv
  have HLT := Lib.hid hl
  have HBD := Lib.hid (hl.bd hn)
  generalize hm : l.length = m at *
  have HM := Lib.hid hm
  clear hv hl hm
  have HB00 := Lib.hid (show Below w.heap.size w ((w.alloc (.cells #[.int .i64 0, .int .i64 0, .slice none 0 0] 74)).alloc (.cells #[.int .i64 (n : Int), .int .i64 0, .slice none 0 0] 74)) from ((Below.refl _ _).alloc (Nat.le_refl _) _).alloc (by simp) _)
  go_enter Tryz.func53, Tryz.ntmps53
  go_wp2
  go_loopg [13] m (fun gk i wr => ∃ (k : Nat) (s : St) (v1 : Value) (H : List Fh), gk = m - k ∧ k ≤ m ∧ i = .int .i64 k ∧ Hid (BoxN n (w.heap.size + 1) wr s.p v1) ∧ Hid (Fac n (w.heap.size + 1) (w.heap.size + 1) wr v1 H) ∧ Hid (s.F = H.map Fh.p) ∧ Hid (IsNF n (l.take k) s) ∧
    Hid (CellsAt wr w.heap.size 0 [.int .i64 0, .int .i64 0, .slice none 0 0]) ∧ Hid (∀ o, wr.frozen? ⟨w.heap.size, o, none⟩ = false) ∧ Hid (Below w.heap.size w wr))
  case atStart =>
    refine ⟨0, ⟨0, []⟩, .slice none 0 0, [], rfl, Nat.zero_le _, rfl, ?_, Fac.nil _ _ _ _, rfl, isNF_nil n, ?_, ?_, HB00.out⟩
    · have h := World.rowIs_alloc (w.alloc (.cells #[.int .i64 0, .int .i64 0, .slice none 0 0] 74)) #[.int .i64 (n : Int), .int .i64 0, .slice none 0 0] 74 (fun i => #[Value.int .i64 (n : Int), .int .i64 0, .slice none 0 0].getD i undef) (fun i hi => row_getD hi)
      simp only [World.alloc] at h ⊢
      exact ⟨_, by simpa using h, rfl, rfl, rfl⟩
    · intro j u hu; rcases j with _ | _ | _ | j <;> simp at hu <;> subst hu <;> simp [go_sem]
    · intro o; simp [go_sem]
  case round =>
    obtain ⟨wo, rfl⟩ : ∃ x : World, x = wr := ⟨_, rfl⟩
    obtain ⟨k, s, v1, H, rfl, hk, rfl, HBX, HFC, HSF, HNF, HC0, HFZ, HB⟩ := hrel
    obtain ⟨hp0, hp1, hp2⟩ := isNF_bd HNF.out
    rw [List.length_take] at hp0 hp1 hp2
    have hsz := HBX.out.lt
    by_cases hlt : k < m
    · obtain ⟨b, off, x, rfl, hbb, hx, hc⟩ := (HL.out.below HB.out).at_ hlt
      obtain ⟨hx0, hx1⟩ := HBD.out x (List.mem_of_getElem? hx)
      obtain ⟨hxn, hxk⟩ := HLT.out x (List.mem_of_getElem? hx)
      have HLX := Lib.hid (HLT.out x (List.mem_of_getElem? hx))
      have HT := Lib.hid (take_next hx)
      have HLP := Lib.hid (show LetsN n (l.take k) from fun y hy => HLT.out y (List.mem_of_mem_take hy))
      have HXC := Lib.hid hc
      have hhl : H.length ≤ 900000 := by have := congrArg List.length HSF.out; rw [List.length_map] at this; omega
      have hpp0 : -900000 ≤ s.p := by omega
      have hpp1 : s.p ≤ 1000000 := by omega
      clear hx hp0 hp1 hp2
      rcases Int.lt_trichotomy x 0 with hneg | hzero | hpos
      · obtain ⟨j, hj⟩ : ∃ j : Nat, x = -(j : Int) := ⟨(-x).toNat, by omega⟩
        subst hj
        have hj1 : 1 ≤ j := by omega
        have hjn : j < n := by omega
        have hn0 : 0 < n := by omega
        have hjneg : -(j : Int) < 0 := by omega
        have hjpos : ¬ (0 : Int) < -(j : Int) := by omega
        have hja : (-(j : Int)).natAbs = j := by omega
        have HLETS := Lib.hid (show lets n (-(j : Int)) = (Pm.half n).behind j hj1 by rw [lets_neg hjneg]; simp only [hja])
        have HFK := Lib.hid (show flipK n (-(j : Int)) s.F = flipL n s.F by unfold flipK; rw [if_neg hjpos])
        have HST := Lib.hid (show stepP s.p (-(j : Int)) = s.p - 1 by unfold stepP; rw [if_neg hjpos])
        have HQA := Lib.hid (size_any (-(j : Int)) (by omega) (by omega) wo)
        rw [if_pos hjneg, Int.neg_neg] at HQA
        clear hxn hxk hx0 hx1 hja hjpos
        go_wp2_with fail
        refine HQA.out.mono ?_
        rintro e w' ⟨rfl, rfl⟩
        go_wp2_with fail
        refine (letterPerm_any n j hn hj1 hjn _).mono ?_
        rintro e w2 ⟨v2, rfl, ho2, hb2⟩
        obtain ⟨g2, cap2, F2, rfl, hlo2, hhi2, hrow2, hnc2, hcap2, hval2⟩ := own_lst ho2 hn0
        have HRP := Lib.hid (show RowP n w2 g2 cap2 (Pm.one.behind j hj1) F2 from ⟨hrow2, hnc2, hcap2, hval2⟩)
        have HG2 := Lib.hid hlo2
        have HB2 := Lib.hid (HB.out.trans (hb2.mono HB.out.size))
        have HC2 := Lib.hid (HC0.out.below hb2 (by omega))
        have HFZ2 := Lib.hid (show ∀ o, w2.frozen? ⟨w.heap.size, o, none⟩ = false from fun o => (hb2.frozen (p := ⟨w.heap.size, o, none⟩) (by show w.heap.size < _; omega)).trans (HFZ.out o))
        have HBX2 := Lib.hid (HBX.out.block (hb2.block _ hsz))
        have HFC2 := Lib.hid (HFC.out.below hb2)
        have hz2 := hb2.size
        obtain ⟨y0, y1, y2⟩ := HBX2.out.cells
        have fy := fun o => HBX2.out.frozen o
        have hg2n : g2 ≠ w.heap.size + 1 := by omega
        have HQF := Lib.hid (flipAll_any n hn0 hn (w.heap.size + 1) (w.heap.size + 1) (s.p - 1) v1 H (w2.setCell ⟨w.heap.size + 1, 1, none⟩ (.int .i64 (s.p - 1))) (HBX2.out.pw _) (HFC2.out.box rfl _) (by simp; omega))
        have HR2 := Lib.hid (HRP.out.block (w' := w2.setCell ⟨w.heap.size + 1, 1, none⟩ (.int .i64 (s.p - 1))) (Go.Deep.blk_setCell_other _ _ _ _ hg2n))
        have HC3 := Lib.hid (HC2.out.far (p := ⟨w.heap.size + 1, 1, none⟩) (by simp) (.int .i64 (s.p - 1)))
        have HFZ3 := Lib.hid (show ∀ o, (w2.setCell ⟨w.heap.size + 1, 1, none⟩ (.int .i64 (s.p - 1))).frozen? ⟨w.heap.size, o, none⟩ = false from fun o => by rw [World.frozen?_setCell]; exact HFZ2.out o)
        have HB3 := Lib.hid (HB2.out.setCell (p := ⟨w.heap.size + 1, 1, none⟩) (by simp) (.int .i64 (s.p - 1)))
        have hsv : ∀ g, v1.ownBlock = some g → g < wo.heap.size := fun g hg => (HFC.out.lt hg).2
        have HNV := Lib.hid (show v1.ownBlock ≠ some g2 from fun e => by have := hsv _ e; omega)
        have hs3 : (w2.setCell ⟨w.heap.size + 1, 1, none⟩ (.int .i64 (s.p - 1))).heap.size = w2.heap.size := by simp
        have HS3 := Lib.hid hs3
        clear ho2 hb2 hrow2 hval2 hsv hs3
        simp only [lst_len] at *
        go_wp2_with fail
        refine HQF.out.mono ?_
        rintro e w3 ⟨rfl, H3, hbx3, hfc3, hfl, hbl3, htc3⟩
        have HBX3 := Lib.hid hbx3
        have HFC3 := Lib.hid hfc3
        have HFL := Lib.hid hfl
        have HBL3 := Lib.hid hbl3
        have HR3 := Lib.hid (HR2.out.block (htc3.block g2 HR2.out.lt HNV.out))
        clear hbx3 hfc3 hfl hbl3 htc3 y0 y1 y2 fy
        go_wp2_with fail
        refine (halfTwist_any n hn0 hn _).mono ?_
        rintro e w4 ⟨v4, rfl, ho4, hb4⟩
        have HQC := Lib.hid (compose_any n hn (Pm.half n) (Pm.one.behind j hj1) (Pm.on_half n) _ _ w4 (RdI.of_own ho4) (HR3.out.block (hb4.block _ HR3.out.lt)).rd)
        obtain ⟨A4, c4, rfl, -⟩ := ho4.cells
        have HB4 := Lib.hid hb4
        have hz4 := hb4.size
        clear ho4 hb4
        go_wp2_with fail
        refine HQC.out.mono ?_
        rintro e w5 ⟨v5, rfl, ho5, hb5⟩
        obtain ⟨A5, c5, rfl, -⟩ := ho5.cells
        have HB5 := Lib.hid (HB4.out.trans (hb5.mono hz4))
        have hz3 := HBX3.out.lt
        have hhl3 : H3.length ≤ 900000 := by have := congrArg List.length HFL.out; unfold flipL at this; rw [List.length_map, List.length_map, List.length_map] at this; omega
        have HTQ := Lib.hid (times_any n (by omega) hn (w.heap.size + 1) (w.heap.size + 1) (s.p - 1) v1 H3 ((Pm.half n).comp (Pm.one.behind j hj1)) _ w5 (HBX3.out.block (HB5.out.block _ hz3)) (HFC3.out.below HB5.out) (Nat.le_refl _) (RdI.of_own ho5) (by rw [comp_behind]; exact (Pm.on_half n).behind hj1 hjn) (by omega) (by omega) hhl3)
        clear ho5 hb5
        go_wp2_with fail
        refine HTQ.out.mono ?_
        rintro e w6 ⟨rfl, a, v', H', hbx', hfc', hnr, hbl⟩
        have HBX6 := Lib.hid hbx'
        have HFC6 := Lib.hid hfc'
        have HNF6 := Lib.hid (show IsNF n (l.take (k + 1)) ⟨s.p - 1 + a, H'.map Fh.p⟩ by rw [HT.out]; exact HNF.out.act HLP.out HLX.out ⟨a, by rw [HFK.out, HLETS.out, HSF.out, ← HFL.out, ← comp_behind n j hj1]; exact hnr, by rw [HST.out]⟩)
        have HBL6 := Lib.hid (show Below (w.heap.size + 1) (w2.setCell ⟨w.heap.size + 1, 1, none⟩ (.int .i64 (s.p - 1))) w6 from (HBL3.out.trans (HB5.out.mono (by omega))).trans hbl)
        clear hbx' hfc' hnr hbl
        go_wp2
        go_roundg (m - (k + 1))
        case measure => omega
        case rel => exact ⟨k + 1, ⟨s.p - 1 + a, H'.map Fh.p⟩, v', H', rfl, by omega, by go_num, HBX6.out, HFC6.out, rfl, HNF6.out, HC3.out.below HBL6.out (Nat.lt_succ_self _), fun o => (HBL6.out.frozen (p := ⟨w.heap.size, o, none⟩) (Nat.lt_succ_self _)).trans (HFZ3.out o), HB3.out.trans (HBL6.out.mono (by omega))⟩
      · exact absurd hzero hxn
      · obtain ⟨j, hj⟩ : ∃ j : Nat, x = (j : Int) := ⟨x.toNat, by omega⟩
        subst hj
        have hj1 : 1 ≤ j := by omega
        have hjn : j < n := by omega
        have hjneg : ¬ (j : Int) < 0 := by omega
        have hjpos : (0 : Int) < (j : Int) := by omega
        have HLETS := Lib.hid (show lets n (j : Int) = Pm.one.behind j hj1 by rw [lets_pos hjpos]; rfl)
        have HFK := Lib.hid (show flipK n (j : Int) s.F = s.F by unfold flipK; rw [if_pos hjpos])
        have HST := Lib.hid (show stepP s.p (j : Int) = s.p by unfold stepP; rw [if_pos hjpos])
        have HQA := Lib.hid (size_any (j : Int) (by omega) (by omega) wo)
        rw [if_neg hjneg] at HQA
        clear hxn hxk hx0 hx1
        go_wp2_with fail
        refine HQA.out.mono ?_
        rintro e w' ⟨rfl, rfl⟩
        go_wp2_with fail
        refine (letterPerm_any n j hn hj1 hjn _).mono ?_
        rintro e w2 ⟨v2, rfl, ho2, hb2⟩
        obtain ⟨A2, c2, rfl, -⟩ := ho2.cells
        have HB2 := Lib.hid (HB.out.trans (hb2.mono HB.out.size))
        have HC2 := Lib.hid (HC0.out.below hb2 (by omega))
        have HFZ2 := Lib.hid (show ∀ o, w2.frozen? ⟨w.heap.size, o, none⟩ = false from fun o => (hb2.frozen (p := ⟨w.heap.size, o, none⟩) (by show w.heap.size < _; omega)).trans (HFZ.out o))
        have HTQ := Lib.hid (times_any n (by omega) hn (w.heap.size + 1) (w.heap.size + 1) s.p v1 H (Pm.one.behind j hj1) _ w2 (HBX.out.block (hb2.block _ hsz)) (HFC.out.below hb2) (Nat.le_refl _) (RdI.of_own ho2) ((Pm.on_one n).behind hj1 hjn) (by omega) hpp1 hhl)
        have hz2 := hb2.size
        clear ho2 hb2
        go_wp2_with fail
        refine HTQ.out.mono ?_
        rintro e w3 ⟨rfl, a, v', H', hbx', hfc', hnr, hbl⟩
        have HBX3 := Lib.hid hbx'
        have HFC3 := Lib.hid hfc'
        have HNF3 := Lib.hid (show IsNF n (l.take (k + 1)) ⟨s.p + a, H'.map Fh.p⟩ by rw [HT.out]; exact HNF.out.act HLP.out HLX.out ⟨a, by rw [HFK.out, HLETS.out, HSF.out]; exact hnr, by rw [HST.out]⟩)
        have HBL := Lib.hid hbl
        clear hbx' hfc' hnr hbl
        go_wp2
        go_roundg (m - (k + 1))
        case measure => omega
        case rel => exact ⟨k + 1, ⟨s.p + a, H'.map Fh.p⟩, v', H', rfl, by omega, by go_num, HBX3.out, HFC3.out, rfl, HNF3.out, HC2.out.below HBL.out (Nat.lt_succ_self _), fun o => (HBL.out.frozen (p := ⟨w.heap.size, o, none⟩) (Nat.lt_succ_self _)).trans (HFZ2.out o), HB2.out.trans (HBL.out.mono (by omega))⟩
    · obtain rfl : k = m := by omega
      obtain ⟨y0, y1, y2⟩ := HBX.out.cells
      obtain ⟨z0, z1, z2⟩ := HC0.out.three
      have fz0 := HFZ.out
      have HT := Lib.hid (show l.take k = l from List.take_of_length_le (by rw [HM.out]; omega))
      have HRD := Lib.hid HFC.out.rd
      obtain ⟨A1, c1, rfl, hmc1, hcm1⟩ := HFC.out.off.shape
      go_wp2
      refine bodyPost_ret (v := .agg #[.int .i64 (n : Int), .int .i64 s.p, .slice A1 H.length c1]) (by simp [results, Tryz.results53, go_sem, y0, y1, y2, z0, z1, z2, World.cell?_setCell_other]) rfl ⟨s, _, rfl, ⟨_, rfl, ?_⟩, by rw [← HT.out]; exact HNF.out, ?_⟩
      · rw [HSF.out]
        refine Fac.rd (HFC.out.block2 fun k h1 _ _ => ?_)
        rw [Go.Deep.blk_setCell_other _ _ _ _ (by show k ≠ w.heap.size; omega), Go.Deep.blk_setCell_other _ _ _ _ (by show k ≠ w.heap.size; omega), Go.Deep.blk_setCell_other _ _ _ _ (by show k ≠ w.heap.size; omega)]
      · exact ((HB.out.setCell (by simp) _).setCell (by simp) _).setCell (by simp) _

end Go.Proofs.YtccdnmafakaleaaGreatDoor

/-
  Words and braids equal as braids, of the program.
-/
namespace Go.Proofs.YtccdnmafakaleaaGreatDoor
set_option linter.unusedVariables false
set_option linter.unusedSimpArgs false
open Go.RowKit

theorem RdNF.below {n : Nat} {w w' : World} {v : Value} {s : St} (h : RdNF n w w.heap.size v s) (hb : Below w.heap.size w w') : RdNF n w' w'.heap.size v s := by
  obtain ⟨u, rfl, hu⟩ := h
  exact ⟨u, rfl, (hu.below hb).more hb.size⟩
theorem eqW_of {n : Nat} {a b : List Int} {s t : St} (ha : LetsN n a) (hb : LetsN n b) (hs : IsNF n a s) (ht : IsNF n b t) : eqW n a b = @decide (s = t) (Classical.propDecidable _) := by
  rw [nfw_eq ha hs, nfw_eq hb ht]
  rfl

set_option maxHeartbeats 2000000 in
set_option maxRecDepth 100000 in
theorem equalWords_any (n : Nat) (hn : n ≤ 12) (a b : List Int) (ha : LetsN n a) (hb : LetsN n b) (hal : a.length ≤ 2000) (hbl : b.length ≤ 2000) (u v : Value) (w : World) (hu : RdI w w.heap.size u a) (hv : RdI w w.heap.size v b) :
    Calls Tryz.prog 40 #[.int .i64 (n : Int), u, v] w fun e w' => e = .returned (.bool (eqW n a b)) ∧ Below w.heap.size w w' := by
  have HQ1 := Lib.hid (normalOf_any n hn a ha (by omega) u w hu)
  have HQ2 := Lib.hid (fun w1 (h : Below w.heap.size w w1) => normalOf_any n hn b hb (by omega) v w1 ((hv.below h).more h.size))
  have HA := Lib.hid ha
  have HB := Lib.hid hb
  obtain ⟨A, c, rfl⟩ := hu.len
  obtain ⟨A', c', rfl⟩ := hv.len
  clear hu hv ha hb
  go_enter Tryz.func40, Tryz.ntmps40
  go_wp2_with fail
  refine HQ1.out.mono ?_
  rintro e w1 ⟨s, x, rfl, hx, hs, hb1⟩
  have HB1 := Lib.hid hb1
  have HX := Lib.hid hx
  have HS := Lib.hid hs
  obtain ⟨x', rfl, -⟩ := hx
  clear hb1 hs
  go_wp2_with fail
  refine (HQ2.out _ HB1.out).mono ?_
  rintro e w2 ⟨t, y, rfl, hy, ht, hb2⟩
  have HB2 := Lib.hid (HB1.out.trans (hb2.mono HB1.out.size))
  have HY := Lib.hid hy
  have HT := Lib.hid ht
  have HE := Lib.hid (eqW_of HA.out HB.out HS.out ht)
  have HQ3 := Lib.hid (sameNormal_any n _ _ s t w2 (HX.out.below hb2) hy (HS.out.val HA.out).on (ht.val HB.out).on)
  obtain ⟨y', rfl, -⟩ := hy
  clear hb2 ht
  go_wp2_with fail
  refine HQ3.out.mono ?_
  rintro e w3 ⟨rfl, hb3⟩
  have HB3 := Lib.hid (HB2.out.trans (hb3.mono HB2.out.size))
  clear hb3
  go_wp2
  go_ret
  exact ⟨ret_bool HE.out.symm, HB3.out⟩

end Go.Proofs.YtccdnmafakaleaaGreatDoor
