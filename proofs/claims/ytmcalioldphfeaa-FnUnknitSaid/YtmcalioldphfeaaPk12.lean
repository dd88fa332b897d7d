/-
  Texts joined: UkL, SMc, OpenB, Bop, DrE2, Stm.
-/
import Derived.Test.YtmcalioldphfeaaPk1
import Derived.Test.YtmcalioldphfeaaPk6
import Derived.Test.YtmcalioldphfeaaPk9
import Derived.Test.YtmcalioldphfeaaPk2
import Derived.Test.YtmcalioldphfeaaOpen
import Derived.Test.YtmcalioldphfeaaPk4
import Derived.Test.YtmcalioldphfeaaPk10
import Derived.Deep.CutBlock
import Derived.Test.YtmcalioldphfeaaPk11
/-
  What is taken back behind an operation that makes a loop, in plain Lean.
-/
namespace Go.Proofs.Ytmcalioldphfeaa
set_option linter.unusedVariables false
set_option linter.unusedSimpArgs false
open Go.RowKit

theorem setL_twice (m : Mc) (n : Int × Int) (a b : List Int) : setL (setL m n a) n b = setL m n b := by
  unfold setL
  split
  · simp [List.set_set]
  · simp [List.set_set]
theorem setL_self {m : Mc} {n : Int × Int} (h : ndIn m n) : setL m n (onL m n) = m := by
  obtain ⟨h1, h2, h3, h4⟩ := h
  have key : ∀ (l : List (List Int)) (k : Nat), k < l.length → l.set k (l.getD k []) = l := fun l k hk => by
    rw [List.getD_eq_getElem?_getD, List.getElem?_eq_getElem hk]
    exact List.set_getElem_self hk
  unfold setL onL
  split
  · rw [key _ _ h4]
  · rw [key _ _ h3]
theorem addLp_setL (N : Mc) (o : Opr) (ps : List Int) (n : Int × Int) (l : List Int) : setL (addLp N o ps) n l = addLp (setL N n l) o ps := by
  unfold setL addLp
  split <;> rfl
theorem cut_add (N : Mc) (o : Opr) (ps : List Int) (c : Int) (a : Car) : cutLs (setC (addLp N o ps) c a) = setC N c a := by
  unfold cutLs setC addLp
  simp
theorem setC_two (m : Mc) (c : Int) (a b : Car) : setC (setC m c a) c b = setC m c b := by
  unfold setC
  simp
theorem carAt_two {m : Mc} {c : Int} (a : Car) (h : (c - 1).toNat < m.cs.length) : carAt (setC m c a) c = a := by
  unfold carAt setC
  show (m.cs.set _ _).getD _ _ = _
  rw [List.getD_eq_getElem?_getD, List.getElem?_set_self h]; rfl
theorem live_all {m : Mc} {k : Int} (hk : k ∈ liveL m) : k ∈ allL m := by
  obtain ⟨n, _, hn⟩ := List.mem_flatMap.1 hk
  unfold onL at hn
  split at hn
  · rw [List.getD_eq_getElem?_getD] at hn
    cases hx : m.bk[n.2.toNat]? with
    | none => rw [hx] at hn; simp at hn
    | some x => rw [hx] at hn; exact List.mem_append_right _ (List.mem_append_left _ (List.mem_flatten.2 ⟨x, List.mem_of_getElem? hx, hn⟩))
  · rw [List.getD_eq_getElem?_getD] at hn
    cases hx : m.fr[n.2.toNat]? with
    | none => rw [hx] at hn; simp at hn
    | some x => rw [hx] at hn; exact List.mem_append_left _ (List.mem_flatten.2 ⟨x, List.mem_of_getElem? hx, hn⟩)
/-- The last loop of what an operation has made. -/
def lastI (o : Opr) (ps : List Int) : Inf := ⟨o.k, o.c, o.fb, o.fa, o.d, ps⟩
theorem last_add (N : Mc) (o : Opr) (ps : List Int) (n : Int × Int) (l : List Int) : (setL (addLp N o ps) n l).ls.getLast? = some (lastI o ps) ∧ (setL (addLp N o ps) n l).ls.length = N.ls.length + 1 := by
  have e : (setL (addLp N o ps) n l).ls = N.ls ++ [lastI o ps] := by unfold setL; split <;> rfl
  rw [e]
  simp
/-- Taking back: what is asked, and what is left. -/
theorem unk_form {N : Mc} {o : Opr} {ps l : List Int} {Z : Mc} {c0 : Car} (hs : stB (setL (addLp N o ps) o.f l) (lastI o ps) = true) (hc : crB (setL (addLp N o ps) o.f l) (lastI o ps) = true)
    (hl : unkL (setL (addLp N o ps) o.f l) (lastI o ps) = addLp (setC Z o.c c0) o ps) :
    unkC (setL (addLp N o ps) o.f l) = 0 ∧ ∃ p, unkM (setL (addLp N o ps) o.f l) = setC Z o.c ⟨(carAt (setL (addLp N o ps) o.f l) o.c).i, p⟩ := by
  obtain ⟨h1, h2⟩ := last_add N o ps o.f l
  constructor
  · unfold unkC
    rw [h1]
    show (if stB _ _ = false then _ else if crB _ _ = false then _ else _) = _
    rw [hs, hc]
    rfl
  · refine ⟨ukFrom (setL (addLp N o ps) o.f l) (lastI o ps), ?_⟩
    unfold unkM
    rw [h1]
    show cutLs (unkL (setC _ o.c _) (lastI o ps)) = _
    rw [unkL_setC, hl, cut_add, setC_two]
    rfl
theorem cr_form {m N : Mc} {o : Opr} {ps l : List Int} (hcs : (o.c - 1).toNat < m.cs.length) (hN : N.cs = (carTo m o).cs) (hr : N.rk = m.rk) (hc : carOk m o = true) (hd : o.d = 1 ∨ o.d = -1) : crB (setL (addLp N o ps) o.f l) (lastI o ps) = true ∧ carAt (setL (addLp N o ps) o.f l) o.c = ⟨(carAt m o.c).i, if o.d = 1 then plcO m o + 1 else plcO m o⟩ := by
  have e : carAt (setL (addLp N o ps) o.f l) o.c = ⟨(carAt m o.c).i, if o.d = 1 then plcO m o + 1 else plcO m o⟩ := by
    rw [carAt_setL]
    have : carAt (addLp N o ps) o.c = carAt (carTo m o) o.c := by unfold carAt; show N.cs.getD _ _ = _; rw [hN]
    rw [this]
    exact carAt_two _ hcs
  have er : (setL (addLp N o ps) o.f l).rk = m.rk := by
    have : (setL (addLp N o ps) o.f l).rk = N.rk := by unfold setL; split <;> rfl
    rw [this, hr]
  refine ⟨?_, e⟩
  unfold crB
  show ((carAt _ o.c).i && decide ((carAt _ o.c).p = ukTo _ _)) = true
  rw [e]
  have ht : ukTo (setL (addLp N o ps) o.f l) (lastI o ps) = plcO m o + (if o.d = -1 then 0 else 1) := by
    unfold ukTo plcO
    show plc o.fb o.fa _ + _ = _
    rw [er]
    rfl
  rw [ht]
  have hi : (carAt m o.c).i = true := carOk_in hc
  rcases hd with h | h <;> simp [h, hi]
theorem fc_of {m : Mc} {o : Opr} (hf : o.fb = 1 ∨ o.fb = 2) (ht : o.tb = 1 ∨ o.tb = 2) (hne : o.fb ≠ o.tb) (hp : plc o.fb o.fa m.rk = plc o.tb o.ta m.rk) : fcN m o.f = o.t := by
  unfold plc at hp
  unfold fcN
  rcases hf with h | h
  · have h2 : o.tb = 2 := by omega
    rw [if_neg (by omega), if_pos h2] at hp
    rw [if_neg (show ¬ o.f.1 = 2 by show ¬ o.fb = 2; omega)]
    show ((2 : Int), o.fa - m.rk) = (o.tb, o.ta)
    rw [h2]
    congr 1
    omega
  · have h2 : o.tb = 1 := by omega
    rw [if_pos h, if_neg (by omega)] at hp
    rw [if_pos (show o.f.1 = 2 from h)]
    show ((1 : Int), o.fa + m.rk) = (o.tb, o.ta)
    rw [h2]
    congr 1
theorem unk_do {m : Mc} {o : Opr} (h : OkP m) (ho : okOpW m.wd o = true) (hk : o.k = 1 ∨ o.k = 2 ∨ o.k = 5) (hc : doCode m o = 0) : unkC (doTo m o) = 0 ∧ ∃ p, unkM (doTo m o) = setC m o.c ⟨(carAt m o.c).i, p⟩ := by
  have hM := h.do_ ho hc
  obtain ⟨h0, hfw, htw⟩ := okOpW_iff.1 ho
  unfold doCode at hc
  rw [if_pos hk] at hc
  unfold doTo at hM ⊢
  rw [if_pos hk] at hM ⊢
  unfold fmCode at hc
  have hco : carOk m o = true := by
    cases e : carOk m o
    · rw [e] at hc; cases hc
    · rfl
  rw [if_neg (by rw [hco]; decide)] at hc
  have h300 : ¬ 300 ≤ m.ls.length := by intro e; rw [if_pos e] at hc; cases hc
  rw [if_neg h300] at hc
  have hkind := okOp_kinds h0
  have hd : (o.d = 1 ∨ o.d = -1) ∧ ndB o.fb o.fa = true ∧ 1 ≤ o.c ∧ o.c ≤ 4 := by
    rcases hkind with ⟨_, a, b, c, d, _⟩ | ⟨e, _⟩ | ⟨_, b, _, _, a, c, d, _⟩ | ⟨e, _⟩ | ⟨e, _⟩ | ⟨e, _⟩ | ⟨e, _⟩
    · exact ⟨a, b, c, d⟩
    · omega
    · exact ⟨a, b, c, d⟩
    · omega
    · omega
    · omega
    · omega
  obtain ⟨hd, hf, c1, c4⟩ := hd
  obtain ⟨hfb, hf0, hf1⟩ := ndB_iff.1 hf
  have hnf : ndIn m o.f := h.need hfb hf0 hfw
  have hcs : (o.c - 1).toNat < m.cs.length := by have := h.cs; omega
  have hi : (carAt m o.c).i = true := carOk_in hco
  have hnc : ndIn (carTo m o) o.f := hnf
  rcases hk with hk | hk | hk
  · have e : fmTo m o = setL (addLp (carTo m o) o (onL m o.f)) o.f [(m.ls.length : Int)] := by unfold fmTo; rw [if_pos hk]
    rw [e] at hM ⊢
    obtain ⟨hcr, hca⟩ := cr_form (l := [(m.ls.length : Int)]) (ps := onL m o.f) hcs rfl rfl hco hd
    have hon : onL (setL (addLp (carTo m o) o (onL m o.f)) o.f [(m.ls.length : Int)]) o.f = [(m.ls.length : Int)] := onL_setL _ (show ndIn (addLp (carTo m o) o (onL m o.f)) o.f from hnf)
    have hlen := (last_add (carTo m o) o (onL m o.f) o.f [(m.ls.length : Int)]).2
    have hst : stB (setL (addLp (carTo m o) o (onL m o.f)) o.f [(m.ls.length : Int)]) (lastI o (onL m o.f)) = true := by
      have hoff : offB (setL (addLp (carTo m o) o (onL m o.f)) o.f [(m.ls.length : Int)]) (onL m o.f) = true := by
        unfold offB
        rw [List.all_eq_true]
        intro q hq
        have hq0 := (onL_nodup h hnf).2 q hq
        have hnd := (all_get hnf).nodup_iff.1 h.nd
        have hqr : ¬ q ∈ restL m o.f := fun e => (List.nodup_append.1 hnd).2.2 q hq q e rfl
        have hal : ¬ q ∈ allL (setL (addLp (carTo m o) o (onL m o.f)) o.f [(m.ls.length : Int)]) := fun e => by
          have h1 := (all_set [(m.ls.length : Int)] (show ndIn (addLp (carTo m o) o (onL m o.f)) o.f from hnf)).mem_iff.1 e
          rcases List.mem_append.1 h1 with h2 | h2
          · have : q = (m.ls.length : Int) := by simpa using h2
            omega
          · exact hqr h2
        have h1 : ¬ q ∈ liveL (setL (addLp (carTo m o) o (onL m o.f)) o.f [(m.ls.length : Int)]) := fun e => hal (live_all e)
        have h2 : ¬ q ∈ (setL (addLp (carTo m o) o (onL m o.f)) o.f [(m.ls.length : Int)]).dr := fun e => hal (List.mem_append_right _ (List.mem_append_right _ e))
        simp [h1, h2]
      unfold stB
      rw [show (lastI o (onL m o.f)).n = o.f from rfl, hon, hlen]
      have h1 : (lastI o (onL m o.f)).ps = onL m o.f := rfl
      have h2 : (lastI o (onL m o.f)).k = 1 := hk
      rw [h1, hoff, h2]
      simp
      show ((carTo m o).ls.length : Int) = _
      rfl
    have hul : unkL (setL (addLp (carTo m o) o (onL m o.f)) o.f [(m.ls.length : Int)]) (lastI o (onL m o.f)) = addLp (setC m o.c ⟨(carAt m o.c).i, if o.d = 1 then plcO m o + 1 else plcO m o⟩) o (onL m o.f) := by
      unfold unkL
      rw [if_neg (show ¬ (lastI o (onL m o.f)).k = 2 by show ¬ o.k = 2; omega), if_neg (show ¬ (lastI o (onL m o.f)).k = 5 by show ¬ o.k = 5; omega)]
      show setL (setL _ o.f _) o.f (onL m o.f) = _
      rw [setL_twice]
      exact setL_self (m := addLp (carTo m o) o (onL m o.f)) hnf
    have := unk_form hst hcr hul
    rw [hca] at this
    exact this
  · have e : fmTo m o = setL (addLp (carTo m o) o []) o.f (onL m o.f ++ [(m.ls.length : Int)]) := by unfold fmTo; rw [if_neg (by omega), if_pos hk]
    rw [e] at hM ⊢
    obtain ⟨hcr, hca⟩ := cr_form (l := onL m o.f ++ [(m.ls.length : Int)]) (ps := []) hcs rfl rfl hco hd
    have hon : onL (setL (addLp (carTo m o) o []) o.f (onL m o.f ++ [(m.ls.length : Int)])) o.f = onL m o.f ++ [(m.ls.length : Int)] := onL_setL _ (show ndIn (addLp (carTo m o) o []) o.f from hnf)
    have hlen := (last_add (carTo m o) o [] o.f (onL m o.f ++ [(m.ls.length : Int)])).2
    have hst : stB (setL (addLp (carTo m o) o []) o.f (onL m o.f ++ [(m.ls.length : Int)])) (lastI o []) = true := by
      unfold stB
      rw [show (lastI o ([] : List Int)).n = o.f from rfl, hon, hlen]
      have h2 : (lastI o ([] : List Int)).k = 2 := hk
      rw [h2]
      simp
      show ((carTo m o).ls.length : Int) = _
      rfl
    have hul : unkL (setL (addLp (carTo m o) o []) o.f (onL m o.f ++ [(m.ls.length : Int)])) (lastI o []) = addLp (setC m o.c ⟨(carAt m o.c).i, if o.d = 1 then plcO m o + 1 else plcO m o⟩) o [] := by
      unfold unkL
      rw [if_pos (show (lastI o ([] : List Int)).k = 2 from hk)]
      show setL (setL _ o.f _) o.f (onL _ o.f).dropLast = _
      rw [hon, List.dropLast_concat, setL_twice]
      exact setL_self (m := addLp (carTo m o) o []) hnf
    have := unk_form hst hcr hul
    rw [hca] at this
    exact this
  · rw [if_neg (by omega), if_neg (by omega)] at hc
    have ht : ndB o.tb o.ta = true ∧ o.fb ≠ o.tb := by
      rcases hkind with ⟨e, _⟩ | ⟨e, _⟩ | ⟨_, _, b, c, _⟩ | ⟨e, _⟩ | ⟨e, _⟩ | ⟨e, _⟩ | ⟨e, _⟩
      · omega
      · omega
      · exact ⟨b, c⟩
      · omega
      · omega
      · omega
      · omega
    obtain ⟨htn, hne⟩ := ht
    obtain ⟨htb, ht0, ht1⟩ := ndB_iff.1 htn
    have hnt : ndIn m o.t := h.need htb ht0 htw
    obtain ⟨hp, hfl, _⟩ := mvCode_zero hc
    have e : fmTo m o = setL (addLp (mvTo (carTo m o) o) o (onL m o.f)) o.f [(m.ls.length : Int)] := by unfold fmTo; rw [if_neg (by omega), if_neg (by omega)]
    rw [e] at hM ⊢
    have hNc : (mvTo (carTo m o) o).cs = (carTo m o).cs := by unfold mvTo; rw [(show ∀ (M : Mc) (n : Int × Int) (l : List Int), (setL M n l).cs = M.cs from fun M n l => by unfold setL; split <;> rfl), (show ∀ (M : Mc) (n : Int × Int) (l : List Int), (setL M n l).cs = M.cs from fun M n l => by unfold setL; split <;> rfl)]
    have hrk : ∀ (M : Mc) (n : Int × Int) (l : List Int), (setL M n l).rk = M.rk := fun M n l => by unfold setL; split <;> rfl
    have hwd : ∀ (M : Mc) (n : Int × Int) (l : List Int), (setL M n l).wd = M.wd := fun M n l => by unfold setL; split <;> rfl
    have hNr : (mvTo (carTo m o) o).rk = m.rk := by unfold mvTo; rw [hrk, hrk]; rfl
    obtain ⟨hcr, hca⟩ := cr_form (N := mvTo (carTo m o) o) (l := [(m.ls.length : Int)]) (ps := onL m o.f) hcs hNc hNr hco hd
    have hls : (mvTo (carTo m o) o).ls = m.ls := by unfold mvTo setL; split <;> split <;> rfl
    have hnN : ∀ n, ndIn m n → ndIn (addLp (mvTo (carTo m o) o) o (onL m o.f)) n := fun n hn => ndIn_set _ (ndIn_set _ (show ndIn (carTo m o) n from hn))
    have hon : onL (setL (addLp (mvTo (carTo m o) o) o (onL m o.f)) o.f [(m.ls.length : Int)]) o.f = [(m.ls.length : Int)] := onL_setL _ (hnN _ hnf)
    have hont : onL (setL (addLp (mvTo (carTo m o) o) o (onL m o.f)) o.f [(m.ls.length : Int)]) o.t = mvL m o := by
      rw [onL_setL_ne _ (hnN _ hnt) (hnN _ hnf) (show o.tb ≠ o.fb by omega)]
      show onL (mvTo (carTo m o) o) o.t = _
      unfold mvTo
      rw [onL_setL_ne _ (ndIn_set _ (show ndIn (carTo m o) o.t from hnt)) (ndIn_set _ (show ndIn (carTo m o) o.f from hnf)) (show o.tb ≠ o.fb by omega), onL_setL _ (show ndIn (carTo m o) o.t from hnt)]
      rfl
    have hfc : fcN (setL (addLp (mvTo (carTo m o) o) o (onL m o.f)) o.f [(m.ls.length : Int)]) o.f = o.t := fc_of hfb htb hne (by rw [hrk]; show plc _ _ (mvTo (carTo m o) o).rk = plc _ _ (mvTo (carTo m o) o).rk; rw [hNr]; exact hp)
    have hlen := (last_add (mvTo (carTo m o) o) o (onL m o.f) o.f [(m.ls.length : Int)]).2
    have hput : ukPut (setL (addLp (mvTo (carTo m o) o) o (onL m o.f)) o.f [(m.ls.length : Int)]) o.f (onL m o.f) = onL m o.f := by
      unfold ukPut
      rw [hfc, hont]
      unfold mvL
      by_cases e2 : o.tb = 2
      · rw [if_pos (show o.t.1 = 2 from e2), if_pos e2]; simp
      · rw [if_neg (show ¬ o.t.1 = 2 from e2), if_neg e2]; simp
    have hrest : ukRest (setL (addLp (mvTo (carTo m o) o) o (onL m o.f)) o.f [(m.ls.length : Int)]) o.f (onL m o.f) = onL m o.t := by
      unfold ukRest
      rw [hfc, hont]
      unfold mvL
      by_cases e2 : o.tb = 2
      · rw [if_pos (show o.t.1 = 2 from e2), if_pos e2]; simp
      · rw [if_neg (show ¬ o.t.1 = 2 from e2), if_neg e2]; simp
    have hhold : holdB (setL (addLp (mvTo (carTo m o) o) o (onL m o.f)) o.f [(m.ls.length : Int)]) o.f (onL m o.f) = true := by
      unfold holdB fcIn
      rw [hput, hfc, hont]
      have h1 : inB 0 o.t.2 ((setL (addLp (mvTo (carTo m o) o) o (onL m o.f)) o.f [(m.ls.length : Int)]).wd - 1) = true := by
        have h2 : (setL (addLp (mvTo (carTo m o) o) o (onL m o.f)) o.f [(m.ls.length : Int)]).wd = m.wd := by
          rw [hwd]
          show (mvTo (carTo m o) o).wd = _
          unfold mvTo
          rw [hwd, hwd]
          rfl
        rw [h2]
        exact inB_iff.2 ⟨ht0, by show o.ta ≤ _; omega⟩
      rw [h1]
      have h3 : (onL m o.f).length ≤ (mvL m o).length := by
        have := (mvL_perm m o).length_eq
        rw [List.length_append] at this
        omega
      simp [h3]
    have hst : stB (setL (addLp (mvTo (carTo m o) o) o (onL m o.f)) o.f [(m.ls.length : Int)]) (lastI o (onL m o.f)) = true := by
      unfold stB
      rw [show (lastI o (onL m o.f)).n = o.f from rfl, hon, hlen]
      have h1 : (lastI o (onL m o.f)).ps = onL m o.f := rfl
      have h2 : (lastI o (onL m o.f)).k = 5 := hk
      rw [h1, h2, hhold, hls]
      simp
    have hul : unkL (setL (addLp (mvTo (carTo m o) o) o (onL m o.f)) o.f [(m.ls.length : Int)]) (lastI o (onL m o.f)) = addLp (setC m o.c ⟨(carAt m o.c).i, if o.d = 1 then plcO m o + 1 else plcO m o⟩) o (onL m o.f) := by
      unfold unkL
      rw [if_neg (show ¬ (lastI o (onL m o.f)).k = 2 by show ¬ o.k = 2; omega), if_pos (show (lastI o (onL m o.f)).k = 5 from hk)]
      show setL (setL (setL _ o.f _) (fcN _ o.f) (ukRest _ o.f (onL m o.f))) o.f (onL m o.f) = _
      rw [hfc, hrest, setL_comm (addLp (mvTo (carTo m o) o) o (onL m o.f)) [(m.ls.length : Int)] (onL m o.t) hfb htb hne, setL_twice, addLp_setL, addLp_setL]
      have h1 : setL (setL (mvTo (carTo m o) o) o.t (onL m o.t)) o.f (onL m o.f) = carTo m o := by
        unfold mvTo
        rw [setL_comm (setL (carTo m o) o.t (mvL (carTo m o) o)) [] (onL m o.t) hfb htb hne, setL_twice, setL_twice]
        have h2 : setL (carTo m o) o.t (onL m o.t) = carTo m o := setL_self (m := carTo m o) hnt
        rw [h2]
        exact setL_self (m := carTo m o) hnf
      rw [h1]
      rfl
    have := unk_form hst hcr hul
    rw [hca] at this
    exact this

end Go.Proofs.Ytmcalioldphfeaa

/-
  The reference's SameMachine at two readings of one machine.
-/
namespace Go.Proofs.Ytmcalioldphfeaa
set_option linter.unusedVariables false
set_option linter.unusedSimpArgs false
open Go.RowKit Go.Op

theorem eqlIn_ca (d : Nat) (x : Car) (W : World) : (Op.equalIn (d + 2) 52 (.agg #[.bool x.i, .int .i64 x.p]) (.agg #[.bool x.i, .int .i64 x.p])).run Try.prog W = .ok true W := by
  rw [run_equalIn_struct (P := Try.prog) W (d + 1) 52 _ _ (by kernel_rfl) (by kernel_rfl)]
  have hf : (Try.prog.fieldsOf 52).toList = [⟨"In", 4, 0, false, "", "", 0⟩, ⟨"At", 2, 1, false, "", "", 8⟩] := by kernel_rfl
  rw [hf]
  obtain ⟨i, p⟩ := x
  simp [go_sem, Op.eqFields]
theorem neq_ca (x : Car) (W : World) : (binOp .neq 52 (.agg #[.bool x.i, .int .i64 x.p]) (.agg #[.bool x.i, .int .i64 x.p])).run Try.prog W = .ok (.bool false) W := by
  rw [run_neq_struct, eqlIn_ca 9998]
  rfl
theorem l00Same_true (v u : Value) (l : List Int) (w : World) (hl : RdI w w.heap.size v l) (hm : RdI w w.heap.size u l) : Calls Try.prog 68 #[v, u] w fun e w' => e = .returned (.bool true) ∧ Below w.heap.size w w' :=
  (specSame_any v u l l w _ hl hm (Nat.le_refl _)).mono fun e w' ⟨h1, h2⟩ => ⟨by rw [h1]; simp, h2⟩
/- two slices whose elements hold slices, alike: sameLL theorem · spec.l07Same function · List (List Int) the datum's type · RdLL its reading · obtain ⟨b, off, x, s, rfl, hbb, hlk, hc, hs⟩ := (RdLL.below HL.out hb).at_ hlt, obtain ⟨b', off', x', t, rfl, hbb', hlk', hc', ht⟩ := (RdLL.below HM.out hb).at_ hlt the elements taken · have e0 := fun X => wgrow_cell (x := X) hc; have f0 := fun X => wgrow_cell (x := X) hc' their cells in grown worlds · spec.l00Same the element's comparison · (l00Same_true _ _ x _ (HS _).out (HT _).out) its contract -/
set_option maxHeartbeats 2000000 in
set_option maxRecDepth 100000 in
theorem sameLL_same (v u : Value) (l : List (List Int)) (w : World) (hl : RdLL w w.heap.size v l) (hm : RdLL w w.heap.size u l) :
    Calls Try.prog 67 #[v, u] w fun x w' => x = .returned (.bool true) ∧ Below w.heap.size w w' := by
  obtain ⟨A, cp, rfl⟩ := RdN.shape hl
  obtain ⟨A', cp', rfl⟩ := RdN.shape hm
  have hbig := RdN.le hl
  have HL := Lib.hid hl
  have HM := Lib.hid hm
  clear hl hm
  generalize hln : l.length = n at *
  go_enter Try.func67, Try.ntmps67
  go_wp2
  go_loopw [5] (fun i wr => ∃ k : Nat, k ≤ n ∧ i = .int .i64 k ∧ Below w.heap.size w wr) (fun i _ => n - (intOf i).toNat)
  case atStart => exact ⟨0, Nat.zero_le _, rfl, Below.refl _ _⟩
  case round =>
    rename_i wr
    obtain ⟨k, hk, rfl, hb⟩ := hrel
    by_cases hlt : k < n
    · obtain ⟨b, off, x, s, rfl, hbb, hlk, hc, hs⟩ := (RdLL.below HL.out hb).at_ hlt
      obtain ⟨b', off', x', t, rfl, hbb', hlk', hc', ht⟩ := (RdLL.below HM.out hb).at_ hlt
      obtain rfl : x = x' := by rw [hlk] at hlk'; injection hlk'
      obtain ⟨A1, n1, c1, rfl⟩ := RdI.shape' hs
      obtain ⟨A2, n2, c2, rfl⟩ := RdI.shape' ht
      have hs1 := hs.more hb.size
      have ht1 := ht.more hb.size
      have HS := fun X => Lib.hid (hs1.up' (below_wgrow wr X) (below_wgrow wr X).size)
      have HT := fun X => Lib.hid (ht1.up' (below_wgrow wr X) (below_wgrow wr X).size)
      have e0 := fun X => wgrow_cell (x := X) hc; have f0 := fun X => wgrow_cell (x := X) hc'
      have HB := Lib.hid hb
      clear hc hc' hlk hlk' hb hs ht hs1 ht1
      go_wp2
      refine wp_region_grow (by kernel_rfl) (by kernel_rfl) ?_
      repeat (go_big_quiet_step ((go_at_call 68; exact calls_grow (l00Same_true _ _ x _ (HS _).out (HT _).out))))
      refine wpQuiet_nil ?_
      intro w1 hb1
      have HB1 := HB.out.trans (hb1.mono HB.out.size)
      go_wp2
      exact ⟨⟨k + 1, by omega, by go_num, HB1⟩, by simp [intOf]; omega⟩
    · go_wp2
      go_ret
      exact ⟨rfl, hb⟩

set_option maxHeartbeats 8000000 in
set_option maxRecDepth 100000 in
theorem sameMachine_same (v u : Value) (m : Mc) (w : World) (hl : RdM w w.heap.size v m) (hm : RdM w w.heap.size u m) :
    Calls Try.prog 20 #[v, u] w fun x w' => x = .returned (.bool true) ∧ Below w.heap.size w w' := by
  obtain ⟨f, b, cs, ls, d, rfl, h1, h2, h3, h4, h5, h6⟩ := hl
  obtain ⟨AF, cF, rfl⟩ := RdN.shape h1
  obtain ⟨AG, cG, rfl⟩ := RdN.shape h2
  obtain ⟨AC, cC, rfl⟩ := RdS.lens h3
  obtain ⟨AI, cI, rfl⟩ := RdN.shape h4
  obtain ⟨AD, cD, rfl⟩ := RdI.len h5
  have HF := Lib.hid h1
  have HG := Lib.hid h2
  have HC := Lib.hid h3
  have HI := Lib.hid h4
  have HD := Lib.hid h5
  have hbC := h3.reads Car.len
  have hln : m.cs.length ≤ 9223372036854775807 := by obtain ⟨A, n, c, e, hn, hl, _⟩ := h3; rw [hl.out]; exact hn
  have hll : m.ls.length ≤ 9223372036854775807 := RdN.le h4
  clear h1 h2 h3 h4 h5 h6 hbC
  obtain ⟨f, b, cs, ls, d, rfl, h1, h2, h3, h4, h5, h6⟩ := hm
  obtain ⟨BF, dF, rfl⟩ := RdN.shape h1
  obtain ⟨BG, dG, rfl⟩ := RdN.shape h2
  obtain ⟨BC, dC, rfl⟩ := RdS.lens h3
  obtain ⟨BI, dI, rfl⟩ := RdN.shape h4
  obtain ⟨BD, dD, rfl⟩ := RdI.len h5
  have JF := Lib.hid h1
  have JG := Lib.hid h2
  have JC := Lib.hid h3
  have JI := Lib.hid h4
  have JD := Lib.hid h5
  clear h1 h2 h3 h4 h5 h6
  have hx0 := (Bx.new w [.int .i64 m.wd, .int .i64 m.rk, .slice AF m.fr.length cF, .slice AG m.bk.length cG, .slice AC m.cs.length cC, .slice AI m.ls.length cI, .slice AD m.dr.length cD] 32).alloc (.cells [.int .i64 m.wd, .int .i64 m.rk, .slice BF m.fr.length dF, .slice BG m.bk.length dG, .slice BC m.cs.length dC, .slice BI m.ls.length dI, .slice BD m.dr.length dD].toArray 32)
  have hy0 := Bx.new (w.alloc (.cells [.int .i64 m.wd, .int .i64 m.rk, .slice AF m.fr.length cF, .slice AG m.bk.length cG, .slice AC m.cs.length cC, .slice AI m.ls.length cI, .slice AD m.dr.length cD].toArray 32)) [.int .i64 m.wd, .int .i64 m.rk, .slice BF m.fr.length dF, .slice BG m.bk.length dG, .slice BC m.cs.length dC, .slice BI m.ls.length dI, .slice BD m.dr.length dD] 32
  rw [World.size_alloc] at hy0
  have HX := Lib.hid hx0
  have HY := Lib.hid hy0
  have BW := Lib.hid (((Below.refl w.heap.size w).alloc (Nat.le_refl _) (.cells [.int .i64 m.wd, .int .i64 m.rk, .slice AF m.fr.length cF, .slice AG m.bk.length cG, .slice AC m.cs.length cC, .slice AI m.ls.length cI, .slice AD m.dr.length cD].toArray 32)).alloc (by simp) (.cells [.int .i64 m.wd, .int .i64 m.rk, .slice BF m.fr.length dF, .slice BG m.bk.length dG, .slice BC m.cs.length dC, .slice BI m.ls.length dI, .slice BD m.dr.length dD].toArray 32))
  clear hx0 hy0
  have n1 : (m.wd != m.wd) = false := by simp
  have n2 : (m.rk != m.rk) = false := by simp
  have n3 : ((m.cs.length : Int) != (m.cs.length : Int)) = false := by simp
  have n4 : ((m.ls.length : Int) != (m.ls.length : Int)) = false := by simp
  go_enter Try.func20, Try.ntmps20
  go_wp2_with fail
  generalize (w.alloc (.cells #[.int .i64 m.wd, .int .i64 m.rk, .slice AF m.fr.length cF, .slice AG m.bk.length cG, .slice AC m.cs.length cC, .slice AI m.ls.length cI, .slice AD m.dr.length cD] 32)).alloc (.cells #[.int .i64 m.wd, .int .i64 m.rk, .slice BF m.fr.length dF, .slice BG m.bk.length dG, .slice BC m.cs.length dC, .slice BI m.ls.length dI, .slice BD m.dr.length dD] 32) = W0 at *
  have hbx : w.heap.size < W0.heap.size := HX.out.2.2
  refine (sameLL_same _ _ m.fr _ (RdLL.up HF.out BW.out BW.out.size) (RdLL.up JF.out BW.out BW.out.size)).mono ?_
  rintro e w1 ⟨rfl, hb⟩
  have B1 := Lib.hid (BW.out.trans (hb.mono BW.out.size))
  have C1 := Lib.hid hb
  clear hb
  obtain ⟨x0, x1, x2, x3, x4, x5, x6⟩ := CellsAt.seven (HX.out.below C1.out hbx).1
  obtain ⟨y0, y1, y2, y3, y4, y5, y6⟩ := CellsAt.seven (HY.out.below C1.out HY.out.2.2).1
  go_wp2_with fail
  clear x0 x1 x2 x3 x4 x5 x6 y0 y1 y2 y3 y4 y5 y6
  refine (sameLL_same _ _ m.bk _ (RdLL.up HG.out B1.out B1.out.size) (RdLL.up JG.out B1.out B1.out.size)).mono ?_
  rintro e w2 ⟨rfl, hb⟩
  have B2 := Lib.hid (B1.out.trans (hb.mono B1.out.size))
  have C2 := Lib.hid (C1.out.trans (hb.mono C1.out.size))
  clear hb
  obtain ⟨x0, x1, x2, x3, x4, x5, x6⟩ := CellsAt.seven (HX.out.below C2.out hbx).1
  obtain ⟨y0, y1, y2, y3, y4, y5, y6⟩ := CellsAt.seven (HY.out.below C2.out HY.out.2.2).1
  go_wp2_with fail
  clear x0 x1 x2 x3 x4 x5 x6 y0 y1 y2 y3 y4 y5 y6
  refine (l00Same_true _ _ m.dr _ (RdI.up' HD.out B2.out B2.out.size) (RdI.up' JD.out B2.out B2.out.size)).mono ?_
  rintro e w3 ⟨rfl, hb⟩
  have B3 := Lib.hid (B2.out.trans (hb.mono B2.out.size))
  have C3 := Lib.hid (C2.out.trans (hb.mono C2.out.size))
  clear hb
  go_wp2
  go_loopw [5] (fun i wr => ∃ (k : Nat) (wq : World), wq = wr ∧ k ≤ m.cs.length ∧ i = .int .i64 k ∧ Hid (Below W0.heap.size W0 wq)) (fun i _ => m.cs.length - (intOf i).toNat)
  case atStart => exact ⟨0, _, rfl, Nat.zero_le _, rfl, C3.out⟩
  case round =>
    obtain ⟨k, wq, hwq, hk, rfl, HBq⟩ := hrel
    subst hwq
    have HBW := Lib.hid (BW.out.trans (HBq.out.mono BW.out.size))
    obtain ⟨x0, x1, x2, x3, x4, x5, x6⟩ := CellsAt.seven (HX.out.below HBq.out hbx).1
    obtain ⟨y0, y1, y2, y3, y4, y5, y6⟩ := CellsAt.seven (HY.out.below HBq.out HY.out.2.2).1
    by_cases hlt : k < m.cs.length
    · obtain ⟨b, off, x, rfl, hbb, hlk, hc⟩ := (RdCs.up HC.out HBW.out HBW.out.size).at_ hlt
      obtain ⟨b', off', x', rfl, hbb', hlk', hc'⟩ := (RdCs.up JC.out HBW.out HBW.out.size).at_ hlt
      obtain rfl : x = x' := by rw [hlk] at hlk'; injection hlk'
      obtain ⟨e0, e1⟩ := CellsAt.grow2 hc
      obtain ⟨f0, f1⟩ := CellsAt.grow2 hc'
      have g4 := fun X => wgrow_cell (x := X) x4
      have h4 := fun X => wgrow_cell (x := X) y4
      have hki : (k : Int) < (m.cs.length : Int) := by omega
      have hne := neq_ca x
      clear hlk hlk' hc hc' hbb hbb'
      go_wp2
      clear x0 x1 x2 x3 x4 x5 x6 y0 y1 y2 y3 y4 y5 y6
      refine wp_region_grow (by kernel_rfl) (by kernel_rfl) ?_
      repeat (go_big_quiet_step (fail))
      refine wpQuiet_nil ?_
      intro w4 hb4
      have HB4 := Lib.hid (HBq.out.trans (hb4.mono HBq.out.size))
      clear hb4 e0 e1 f0 f1 g4 h4 hne
      go_wp2
      exact ⟨⟨k + 1, _, rfl, by omega, by go_num, HB4.out⟩, by simp [intOf]; omega⟩
    · have hkn : k = m.cs.length := by omega
      go_wp2
      clear x0 x1 x2 x3 x4 x5 x6 y0 y1 y2 y3 y4 y5 y6
      go_loopw [6] (fun i wr => ∃ (k : Nat) (wq : World), wq = wr ∧ k ≤ m.ls.length ∧ i = .int .i64 k ∧ Hid (Below W0.heap.size W0 wq)) (fun i _ => m.ls.length - (intOf i).toNat)
      case atStart => exact ⟨0, _, rfl, Nat.zero_le _, rfl, HBq.out⟩
      case round =>
        clear HBq HBW hlt hkn hk
        obtain ⟨k2, wq2, hwq, hk, rfl, HBq⟩ := hrel
        subst hwq
        have HBW := Lib.hid (BW.out.trans (HBq.out.mono BW.out.size))
        obtain ⟨x0, x1, x2, x3, x4, x5, x6⟩ := CellsAt.seven (HX.out.below HBq.out hbx).1
        obtain ⟨y0, y1, y2, y3, y4, y5, y6⟩ := CellsAt.seven (HY.out.below HBq.out HY.out.2.2).1
        by_cases hlt : k2 < m.ls.length
        · obtain ⟨b, off, x, A1, c1, rfl, hbb, hlk, hc, hs, -⟩ := (RdIs.up HI.out HBW.out HBW.out.size).at_cap hlt
          obtain ⟨b', off', x', A2, c2, rfl, hbb', hlk', hc', ht, -⟩ := (RdIs.up JI.out HBW.out HBW.out.size).at_cap hlt
          obtain rfl : x = x' := by rw [hlk] at hlk'; injection hlk'
          have hki : (k2 : Int) < (m.ls.length : Int) := by omega
          obtain ⟨e0, e1, e2, e3, e4, e5⟩ := CellsAt.six hc
          have hal := (Below.refl wq2.heap.size wq2).alloc (Nat.le_refl _) (.cells #[.int .i64 x.k, .int .i64 x.y, .int .i64 x.b, .int .i64 x.p, .int .i64 x.d, .slice A1 x.ps.length c1] 102)
          obtain ⟨f0, f1, f2, f3, f4, f5⟩ := CellsAt.six (hc'.below hal hbb')
          have z5 := (HY.out.below (HBq.out.trans (hal.mono HBq.out.size)) HY.out.2.2).1 5 _ rfl
          rw [Nat.zero_add] at z5
          have hal2 := hal.alloc hal.size (.cells #[.int .i64 x.k, .int .i64 x.y, .int .i64 x.b, .int .i64 x.p, .int .i64 x.d, .slice A2 x.ps.length c2] 102)
          have HQ := Lib.hid (l00Same_true _ _ x.ps _ (hs.up' hal2 hal2.size) (ht.up' hal2 hal2.size))
          have HB2 := Lib.hid (HBq.out.trans (hal2.mono HBq.out.size))
          have m1 : (x.k != x.k) = false := by simp
          have m2 : (x.y != x.y) = false := by simp
          have m3 : (x.b != x.b) = false := by simp
          have m4 : (x.p != x.p) = false := by simp
          have m5 : (x.d != x.d) = false := by simp
          clear hlk hlk' hc hc' hs ht hal hal2 hbb hbb'
          go_wp2_with fail
          refine (HQ.out).mono ?_
          rintro e w5 ⟨rfl, hb5⟩
          have HB5 := Lib.hid (HB2.out.trans (hb5.mono HB2.out.size))
          clear hb5 HQ e0 e1 e2 e3 e4 e5 f0 f1 f2 f3 f4 f5 z5 x0 x1 x2 x3 x4 x5 x6 y0 y1 y2 y3 y4 y5 y6
          go_wp2
          exact ⟨⟨k2 + 1, _, rfl, by omega, by go_num, HB5.out⟩, by simp [intOf]; omega⟩
        · go_wp2
          go_ret
          exact ⟨rfl, HBW.out⟩

end Go.Proofs.Ytmcalioldphfeaa

/-
  A slice of bytes that came in; the bound on its length.
-/
namespace Go.Proofs.Ytmcalioldphfeaa
set_option linter.unusedVariables false
set_option linter.unusedSimpArgs false
open Go.ChangeShapes Go.WideShapes Go.ChangeAt Go.RowKit Go.Deep

theorem byte_of_wf {x : Int} (h : (Lit.int .u8 x).wf = true) : 0 ≤ x ∧ x ≤ 255 := by
  simp [Lit.wf, IntKind.min, IntKind.max, IntKind.signed, IntKind.bits] at h
  exact ⟨by omega, by omega⟩
section
variable {H : Type} {enc : TypeId × Value → H} {P : Program} {W : World} {base : Nat} {d : DataW H} {p : List MemPlace} {v : Value}
theorem open_rdB {t e : TypeId} (ht : P.underlying t = some (.slice e)) (he : P.underlying e = some (.int .u8)) (hc : P.cellsOf e = 1) (ho : Value.okWide P W .any base t v)
    (h : DataW.Trod enc P W 0 (fun _ => true) true t v d p) : RdB W W.heap.size v := by
  obtain ⟨A, n, c, rfl⟩ := okWide_slice ht ho
  obtain ⟨fuel, hf⟩ := h
  rcases open_ints ht he hc hf with ⟨hcs, _⟩ | ⟨a, l', c', zs, hcs, _, hl, hm, hz, _, hcell, hwz⟩
  · simp [Value.cells] at hcs
    obtain ⟨rfl, rfl, rfl⟩ := hcs
    exact ⟨none, 0, 0, rfl, by omega, fun k hk => absurd hk (by omega)⟩
  · simp [Value.cells] at hcs
    obtain ⟨rfl, rfl, rfl⟩ := hcs
    simp only [if_true] at hz
    refine ⟨some a, n, c, rfl, by unfold maxLen at hm; omega, fun k hk => ?_⟩
    obtain ⟨h1, h2, h3⟩ := addr_of_cell (hcell k (by omega)) ⟨_, hcell 0 (by omega)⟩
    have hb : 0 ≤ zs.getD k 0 ∧ zs.getD k 0 ≤ 255 := by
      rw [List.getD_eq_getElem?_getD]
      cases hx : zs[k]? with
      | none => simp
      | some x => exact byte_of_wf (hwz x (List.mem_of_getElem? hx))
    exact ⟨a.block, a.off, zs.getD k 0, by rw [← h1], h2, hb.1, hb.2, h3⟩
end
theorem b10Long_s (A : Option Addr) (n c : Nat) (h : n ≤ 9223372036854775807) (b : Bool) (hb : decide (1048576 < n) = b) (w : World) : Calls Try.prog 17 #[.slice A n c] w fun e w' => e = .returned (.bool b) ∧ w = w' := by
  subst hb
  go_enter Try.func17, Try.ntmps17
  go_wp2
  go_ret
  exact ⟨ret_bool (by first | rfl | (rw [Bool.eq_iff_iff]; simp; omega)), by trivial⟩

end Go.Proofs.Ytmcalioldphfeaa

/-
  The reference's l01BentNeedle and l07BentOp: operations that are often not valid.
-/
namespace Go.Proofs.Ytmcalioldphfeaa
set_option linter.unusedVariables false
set_option linter.unusedSimpArgs false
open Go.RowKit

/-- One of four numbers. -/
theorem among4 {W : World} {gs b : Nat} {K : Int} {x y z t : Int} (hS : Src W gs K) (hK : K + 2 ≤ 1000000000) (hb : Bx W b [.int .i64 x, .int .i64 y, .int .i64 z, .int .i64 t]) (hne : b ≠ gs) :
    Calls Try.prog 110 #[.pointer (some ⟨gs, 0, none⟩), .slice (some ⟨b, 0, none⟩) 4 4] W (Drawn W gs (K + 2) fun _ => True) := by
  refine (among_any W gs [x, y, z, t] _ K hS hK ⟨some ⟨b, 0, none⟩, 4, 4, rfl, by omega, rfl, fun k hk => ?_⟩ (fun A n c e _ => ?_) (by simp)).mono (fun e w' ⟨u, h1, h2, h3, h4⟩ => ⟨u, h1, trivial, h3, h4⟩)
  · have c := hb.1
    rcases k with _ | _ | _ | _ | k
    · exact ⟨b, 0, x, rfl, hb.2.2, rfl, by have := c 0 _ rfl; simpa using this⟩
    · exact ⟨b, 0, y, rfl, hb.2.2, rfl, by have := c 1 _ rfl; simpa using this⟩
    · exact ⟨b, 0, z, rfl, hb.2.2, rfl, by have := c 2 _ rfl; simpa using this⟩
    · exact ⟨b, 0, t, rfl, hb.2.2, rfl, by have := c 3 _ rfl; simpa using this⟩
    · omega
  · injection e with e1 _ _
    exact ⟨b, 0, e1.symm, hne⟩
/-- A needle that may be none. -/
def DrawnAny (w : World) (g : Nat) (K : Int) (e : Ending) (w' : World) : Prop := ∃ b a, e = .returned (.agg #[.int .i64 b, .int .i64 a]) ∧ Src w' g K ∧ Only g (g + 1) w w'
/-- The source, what has turned, the result's box, and another. -/
structure OSt (w0 : World) (gs : Nat) (K : Int) (zs : List Value) (g6 : Nat) (us : List Value) (wx : World) : Prop where
  src : Src wx gs K
  only : Only gs (gs + 1) w0 wx
  res : Bx wx w0.heap.size zs
  op : Bx wx g6 us
  ne : w0.heap.size ≠ g6
  lt : w0.heap.size < g6
theorem OSt.alloc {w0 wx : World} {gs g6 : Nat} {K : Int} {zs us : List Value} (h : OSt w0 gs K zs g6 us wx) (o : Obj) : OSt w0 gs K zs g6 us (wx.alloc o) := ⟨h.src.alloc _, h.only.alloc _, h.res.alloc _, h.op.alloc _, h.ne, h.lt⟩
theorem OSt.turn {w0 wx wy : World} {gs g6 : Nat} {K K' : Int} {zs us : List Value} (h : OSt w0 gs K zs g6 us wx) (hg : gs < w0.heap.size) (hs : Src wy gs K') (ho : Only gs (gs + 1) wx wy) : OSt w0 gs K' zs g6 us wy :=
  ⟨hs, h.only.trans ho, h.res.only ho (by omega), h.op.only ho (by have := h.lt; omega), h.ne, h.lt⟩
theorem OSt.set {w0 wx : World} {gs g6 : Nat} {K : Int} {zs us : List Value} (h : OSt w0 gs K zs g6 us wx) (hg : gs < w0.heap.size) (i : Nat) (u : Value) (hi : i < us.length := by simp) : OSt w0 gs K zs g6 (us.set i u) (wx.setCell ⟨g6, i, none⟩ u) :=
  ⟨h.src.setNew (by have := h.lt; omega) _ _, h.only.setNew (by have := h.lt; omega) _ _, h.res.far (by have := h.lt; omega) _ _, h.op.set hi _, h.ne, h.lt⟩

set_option maxHeartbeats 4000000 in
set_option maxRecDepth 100000 in
theorem l01BentNeedle_any {w : World} {gs : Nat} {K : Int} (hS : Src w gs K) (hK : K + 8 ≤ 1000000000) : Calls Try.prog 112 #[.pointer (some ⟨gs, 0, none⟩)] w (DrawnAny w gs (K + 8)) := by
  have hgs := hS.lt
  have HS := Lib.hid hS
  have HR := Lib.hid (Bx.new w [.int .i64 0, .int .i64 0] 45)
  clear hS
  go_enter Try.func112, Try.ntmps112
  go_wp2_with fail
  refine (l01DrawNeedle_any _ gs 24 K (HS.out.alloc _) (by omega) (by omega)).mono ?_
  rintro e w1 ⟨b, a, rfl, -, -, -, hs1, ho1⟩
  have HO1 : Hid (OSt w gs (K + 4) [.int .i64 0, .int .i64 0] w1.heap.size [.int .i64 b, .int .i64 a] (w1.alloc (.cells #[.int .i64 b, .int .i64 a] 45))) := by
    have hz1 : w.heap.size < w1.heap.size := by have := ho1.size; rw [World.size_alloc] at this; exact this
    exact ⟨hs1.alloc _, (((Only.refl gs (gs + 1) w).alloc _).trans ho1).alloc _, (HR.out.only ho1 (by omega)).alloc _, Bx.new w1 _ _, by omega, hz1⟩
  clear hs1 ho1 HR HS
  go_wp2_with fail
  generalize hW : w1.alloc (.cells #[.int .i64 b, .int .i64 a] 45) = W1 at *
  generalize w1.heap.size = g3 at *
  clear hW
  refine (pick_any W1 gs 8 (K + 4) HO1.out.src (by omega)).mono ?_
  rintro e w2 ⟨x, rfl, -, hs2, ho2⟩
  have HO2 := Lib.hid (HO1.out.turn hgs hs2 ho2)
  have hne := HO2.out.ne
  clear hs2 ho2 HO1
  have hfin : ∀ (wq : World) (b' a' : Int) (K' : Int), K' ≤ K + 8 → OSt w gs K' [.int .i64 0, .int .i64 0] g3 [.int .i64 b', .int .i64 a'] wq → DrawnAny w gs (K + 8) (.returned (.agg #[.int .i64 b', .int .i64 a'])) ((wq.setCell ⟨w.heap.size, 0, none⟩ (.int .i64 b')).setCell ⟨w.heap.size, 1, none⟩ (.int .i64 a')) := fun wq b' a' K' hk h =>
    ⟨b', a', rfl, ((h.src.more hk hK).setNew hgs _ _).setNew hgs _ _, (h.only.setNew (Nat.le_refl _) _ _).setNew (Nat.le_refl _) _ _⟩
  have HFIN := Lib.hid hfin
  clear hfin
  by_cases h0 : x = 0
  · subst h0
    have HA := Lib.hid (HO2.out.alloc (.cells #[.int .i64 0, .int .i64 3, .int .i64 (-1)] 2))
    have HAB := Lib.hid (Bx.new w2 [.int .i64 0, .int .i64 3, .int .i64 (-1)] 2)
    have hg2 : w2.heap.size ≠ gs := by have := HO2.out.src.lt; omega
    go_wp2_with fail
    refine (among3 HA.out.src (by omega) HAB.out hg2).mono ?_
    rintro e w3 ⟨y, rfl, -, hs3, ho3⟩
    have HO3 := Lib.hid (HA.out.turn hgs hs3 ho3)
    have HF := Lib.hid (HFIN.out _ y a _ (by omega) (HO3.out.set hgs 0 (.int .i64 y)))
    obtain ⟨n0, n1⟩ := HO3.out.op.two
    have nf := HO3.out.op.2.1
    obtain ⟨r0, r1⟩ := HO3.out.res.two
    have rf := HO3.out.res.2.1
    clear hs3 ho3 HA HAB
    go_wp2
    refine bodyPost_ret (v := .agg #[.int .i64 y, .int .i64 a]) (by simp [results, Try.results112, go_sem, r0, r1, World.cell?_setCell_other]) rfl ?_
    exact HF.out
  · have e0 : (x == 0) = false := by simpa using h0
    by_cases h1 : x = 1
    · subst h1
      have HA := Lib.hid (HO2.out.alloc (.cells #[.int .i64 (-1), .int .i64 23, .int .i64 24, .int .i64 (-9223372036854775808)] 2))
      have HAB := Lib.hid (Bx.new w2 [.int .i64 (-1), .int .i64 23, .int .i64 24, .int .i64 (-9223372036854775808)] 2)
      have hg2 : w2.heap.size ≠ gs := by have := HO2.out.src.lt; omega
      go_wp2_with fail
      refine (among4 HA.out.src (by omega) HAB.out hg2).mono ?_
      rintro e w3 ⟨y, rfl, -, hs3, ho3⟩
      have HO3 := Lib.hid (HA.out.turn hgs hs3 ho3)
      have HF := Lib.hid (HFIN.out _ b y _ (by omega) (HO3.out.set hgs 1 (.int .i64 y)))
      obtain ⟨n0, n1⟩ := HO3.out.op.two
      have nf := HO3.out.op.2.1
      obtain ⟨r0, r1⟩ := HO3.out.res.two
      have rf := HO3.out.res.2.1
      clear hs3 ho3 HA HAB
      go_wp2
      refine bodyPost_ret (v := .agg #[.int .i64 b, .int .i64 y]) (by simp [results, Try.results112, go_sem, r0, r1, World.cell?_setCell_other]) rfl ?_
      exact HF.out
    · have e1 : (x == 1) = false := by simpa using h1
      have HF := Lib.hid (HFIN.out _ b a _ (by omega) HO2.out)
      obtain ⟨n0, n1⟩ := HO2.out.op.two
      obtain ⟨r0, r1⟩ := HO2.out.res.two
      have rf := HO2.out.res.2.1
      clear h0 h1
      go_wp2
      refine bodyPost_ret (v := .agg #[.int .i64 b, .int .i64 a]) (by simp [results, Try.results112, go_sem, r0, r1, World.cell?_setCell_other]) rfl ?_
      exact HF.out

/-- Any operation that was drawn. -/
def DrawnO (w : World) (g : Nat) (K : Int) (e : Ending) (w' : World) : Prop := ∃ x : Opr, e = .returned x.v ∧ Src w' g K ∧ Only g (g + 1) w w'
set_option maxHeartbeats 8000000 in
set_option maxRecDepth 100000 in
theorem l07BentOp_any {w : World} {gm gs : Nat} {m : Mc} {K : Int} (hS : Src w gs K) (hP : RdP w gm m) (hdr : m.dr.length ≤ 1048576) (hM : okM m = true → ∃ B S, MSt w B gm m S ∧ gs < B) (hK : K + 32 ≤ 1000000000) :
    Calls Try.prog 63 #[.pointer (some ⟨gs, 0, none⟩), .pointer (some ⟨gm, 0, none⟩)] w (DrawnO w gs (K + 32)) := by
  have hgs := hS.lt
  have HS := Lib.hid hS
  have HM := Lib.hid hM
  have hb1 := (Below.refl w.heap.size w).alloc (Nat.le_refl _) (.cells zOp.toArray 47)
  have hr0 := Bx.new w zOp 47
  have hr1 := hr0.alloc (.cells [.int .i64 7, .int .i64 0, .int .i64 0, .int .i64 0, .int .i64 0, .int .i64 0, .int .i64 0, .int .i64 0].toArray 47)
  have hp1 := Bx.new (w.alloc (.cells zOp.toArray 47)) [.int .i64 7, .int .i64 0, .int .i64 0, .int .i64 0, .int .i64 0, .int .i64 0, .int .i64 0, .int .i64 0] 47
  rw [World.size_alloc] at hp1
  have hB2 := (hb1.alloc (by simp) (.cells [.int .i64 7, .int .i64 0, .int .i64 0, .int .i64 0, .int .i64 0, .int .i64 0, .int .i64 0, .int .i64 0].toArray 47))
  have HB2 := Lib.hid hB2
  have HO1 : Hid (OSt w gs K zOp (w.heap.size + 1) (⟨7, 0, 0, 0, 0, 0, 0, 0⟩ : Opr).cells ((w.alloc (.cells zOp.toArray 47)).alloc (.cells [.int .i64 7, .int .i64 0, .int .i64 0, .int .i64 0, .int .i64 0, .int .i64 0, .int .i64 0, .int .i64 0].toArray 47))) :=
    ⟨(hS.alloc _).alloc _, ((Only.refl _ _ _).alloc _).alloc _, hr1, hp1, by omega, by omega⟩
  have HP := Lib.hid (hP.below hB2)
  clear hS hM hP hb1 hr0 hr1 hp1 hB2
  go_enter Try.func63, Try.ntmps63
  go_wp2_with fail
  refine (l07Ok_p m gm _ HP.out hdr).mono ?_
  rintro e w2 ⟨rfl, hb2⟩
  have HO2 := Lib.hid (HO1.out.turn hgs (HO1.out.src.below hb2 HO1.out.src.lt) (Only.of_below hb2))
  have HB3 := Lib.hid (HB2.out.trans (hb2.mono HB2.out.size))
  clear hb2 HO1 HP HB2
  go_upto_if 8 with fail
  go_cut [] (fun wx => ∃ (o : Opr) (wy : World), wy = wx ∧ Hid (OSt w gs (K + 20) zOp (w.heap.size + 1) o.cells wx))
  case first =>
    cases hok : okM m
    · have HF := Lib.hid (HO2.out.turn hgs (HO2.out.src.more (show K ≤ K + 20 by omega) (by omega)) (Only.refl _ _ _))
      clear hok
      go_wp2
      go_meet
      case rel => exact ⟨⟨7, 0, 0, 0, 0, 0, 0, 0⟩, _, rfl, HF.out⟩
    · obtain ⟨B, S, hM, hgB⟩ := HM.out hok
      have HQ := Lib.hid (l07DrawOp_any (K := K) HO2.out.src (hM.below HB3.out) hgB (by omega) hok)
      clear hM hok
      go_wp2_with fail
      refine (HQ.out).mono ?_
      rintro e w3 ⟨x, rfl, -, hs3, ho3⟩
      have HO3 := Lib.hid (HO2.out.turn hgs hs3 ho3)
      obtain ⟨o0, o1, o2, o3, o4, o5, o6, o7⟩ := HO3.out.op.eight
      have of := HO3.out.op.2.1
      have HF : Hid (OSt w gs (K + 20) zOp (w.heap.size + 1) x.cells (set8 w3 (w.heap.size + 1) (.int .i64 x.k) (.int .i64 x.d) (.int .i64 x.fb) (.int .i64 x.fa) (.int .i64 x.tb) (.int .i64 x.ta) (.int .i64 x.c) (.int .i64 x.r))) :=
        ⟨HO3.out.src.set8 (by omega) _ _ _ _ _ _ _ _, HO3.out.only.set8 (by omega) _ _ _ _ _ _ _ _, HO3.out.res.far8 (by omega) _ _ _ _ _ _ _ _, HO3.out.op.set8 _ _ _ _ _ _ _ _, by omega, by omega⟩
      clear hs3 ho3 HQ
      go_wp2
      go_meet
      case rel => exact ⟨x, _, rfl, HF.out⟩
  case rest =>
    obtain ⟨HOS, w3, rfl, HO3⟩ := hcut
    clear HO2 HB3 HM
    go_wp2_with fail
    refine (pick_any w3 gs 14 (K + 20) HO3.out.src (by omega)).mono ?_
    rintro e w4 ⟨z, rfl, -, hs4, ho4⟩
    have HO4 : Hid (OSt w gs (K + 22) zOp (w.heap.size + 1) HOS.cells w4) := by have h9 := HO3.out.turn hgs hs4 ho4; rwa [show K + 20 + 2 = K + 22 by omega] at h9
    clear hs4 ho4 HO3
    go_upto_block 0 with fail
    go_cut [] (fun wx => ∃ (o : Opr) (wy : World), wy = wx ∧ Hid (∃ K', K' ≤ K + 32 ∧ OSt w gs K' zOp (w.heap.size + 1) o.cells wx))
    case first =>
      by_cases h0 : z = 0
      · subst h0
        go_wp2_with fail
        refine (pick_any _ gs 11 (K + 22) HO4.out.src (by omega)).mono ?_
        rintro e w5 ⟨y, rfl, hy, hs5, ho5⟩
        have HO5 := Lib.hid ((HO4.out.turn hgs hs5 ho5).set hgs 0 (.int .i64 y))
        have hcl : (HOS.cells.set 0 (.int .i64 y)) = ({ HOS with k := y } : Opr).cells := rfl
        obtain ⟨HOS2, hos2⟩ : ∃ o2, o2 = ({ HOS with k := y } : Opr) := ⟨_, rfl⟩
        rw [hcl, ← hos2] at HO5
        obtain ⟨q0, q1, q2, q3, q4, q5, q6, q7⟩ := (HO4.out.turn hgs hs5 ho5).op.eight
        have qf := (HO4.out.turn hgs hs5 ho5).op.2.1
        obtain ⟨r0, r1, r2, r3, r4, r5, r6, r7⟩ := (HO4.out.turn hgs hs5 ho5).res.eight
        have rf := (HO4.out.turn hgs hs5 ho5).res.2.1
        have hne := HO5.out.ne
        clear hs5 ho5 hcl
        go_wp2
        go_meet
        case rel => exact ⟨HOS2, _, rfl, _, by omega, HO5.out⟩
      · have e0 : (z == 0) = false := by simpa using h0
        by_cases h1 : z = 1
        · subst h1
          go_wp2_with fail
          refine (pick_any _ gs 4 (K + 22) HO4.out.src (by omega)).mono ?_
          rintro e w5 ⟨y, rfl, hy, hs5, ho5⟩
          have hwy : IntKind.i64.wrap (y - 2) = y - 2 := wrap_sm (by have := hy.1; have := hy.2.1 (by omega); omega) (by have := hy.1; have := hy.2.1 (by omega); omega)
          have HO5 := Lib.hid ((HO4.out.turn hgs hs5 ho5).set hgs 1 (.int .i64 (y - 2)))
          have hcl : (HOS.cells.set 1 (.int .i64 (y - 2))) = ({ HOS with d := (y - 2) } : Opr).cells := rfl
          obtain ⟨HOS2, hos2⟩ : ∃ o2, o2 = ({ HOS with d := (y - 2) } : Opr) := ⟨_, rfl⟩
          rw [hcl, ← hos2] at HO5
          obtain ⟨q0, q1, q2, q3, q4, q5, q6, q7⟩ := (HO4.out.turn hgs hs5 ho5).op.eight
          have qf := (HO4.out.turn hgs hs5 ho5).op.2.1
          obtain ⟨r0, r1, r2, r3, r4, r5, r6, r7⟩ := (HO4.out.turn hgs hs5 ho5).res.eight
          have rf := (HO4.out.turn hgs hs5 ho5).res.2.1
          have hne := HO5.out.ne
          clear hs5 ho5 hcl
          go_wp2
          go_meet
          case rel => exact ⟨HOS2, _, rfl, _, by omega, HO5.out⟩
        · have e1 : (z == 1) = false := by simpa using h1
          by_cases h2 : z = 2
          · subst h2
            go_wp2_with fail
            refine (l01BentNeedle_any (K := K + 22) HO4.out.src (by omega)).mono ?_
            rintro e w5 ⟨yb, ya, rfl, hs5, ho5⟩
            have HO5 := Lib.hid (((HO4.out.turn hgs hs5 ho5).set hgs 2 (.int .i64 yb)).set hgs 3 (.int .i64 ya))
            have hcl : ((HOS.cells.set 2 (.int .i64 yb)).set 3 (.int .i64 ya)) = ({ HOS with fb := yb, fa := ya } : Opr).cells := rfl
            obtain ⟨HOS2, hos2⟩ : ∃ o2, o2 = ({ HOS with fb := yb, fa := ya } : Opr) := ⟨_, rfl⟩
            rw [hcl, ← hos2] at HO5
            obtain ⟨q0, q1, q2, q3, q4, q5, q6, q7⟩ := (HO4.out.turn hgs hs5 ho5).op.eight
            have qf := (HO4.out.turn hgs hs5 ho5).op.2.1
            obtain ⟨r0, r1, r2, r3, r4, r5, r6, r7⟩ := (HO4.out.turn hgs hs5 ho5).res.eight
            have rf := (HO4.out.turn hgs hs5 ho5).res.2.1
            have hne := HO5.out.ne
            clear hs5 ho5 hcl
            go_wp2
            go_meet
            case rel => exact ⟨HOS2, _, rfl, _, by omega, HO5.out⟩
          · have e2 : (z == 2) = false := by simpa using h2
            by_cases h3 : z = 3
            · subst h3
              go_wp2_with fail
              refine (l01BentNeedle_any (K := K + 22) HO4.out.src (by omega)).mono ?_
              rintro e w5 ⟨yb, ya, rfl, hs5, ho5⟩
              have HO5 := Lib.hid (((HO4.out.turn hgs hs5 ho5).set hgs 4 (.int .i64 yb)).set hgs 5 (.int .i64 ya))
              have hcl : ((HOS.cells.set 4 (.int .i64 yb)).set 5 (.int .i64 ya)) = ({ HOS with tb := yb, ta := ya } : Opr).cells := rfl
              obtain ⟨HOS2, hos2⟩ : ∃ o2, o2 = ({ HOS with tb := yb, ta := ya } : Opr) := ⟨_, rfl⟩
              rw [hcl, ← hos2] at HO5
              obtain ⟨q0, q1, q2, q3, q4, q5, q6, q7⟩ := (HO4.out.turn hgs hs5 ho5).op.eight
              have qf := (HO4.out.turn hgs hs5 ho5).op.2.1
              obtain ⟨r0, r1, r2, r3, r4, r5, r6, r7⟩ := (HO4.out.turn hgs hs5 ho5).res.eight
              have rf := (HO4.out.turn hgs hs5 ho5).res.2.1
              have hne := HO5.out.ne
              clear hs5 ho5 hcl
              go_wp2
              go_meet
              case rel => exact ⟨HOS2, _, rfl, _, by omega, HO5.out⟩
            · have e3 : (z == 3) = false := by simpa using h3
              by_cases h4 : z = 4
              · subst h4
                have HA := Lib.hid (HO4.out.alloc (.cells #[.int .i64 0, .int .i64 5, .int .i64 4, .int .i64 (-1)] 2))
                have HAB := Lib.hid (Bx.new w4 [.int .i64 0, .int .i64 5, .int .i64 4, .int .i64 (-1)] 2)
                have hg4 : w4.heap.size ≠ gs := by have := HO4.out.src.lt; omega
                go_wp2_with fail
                refine (among4 HA.out.src (by omega) HAB.out hg4).mono ?_
                rintro e w5 ⟨y, rfl, hy, hs5, ho5⟩
                have HO5 := Lib.hid ((HA.out.turn hgs hs5 ho5).set hgs 6 (.int .i64 y))
                have hcl : (HOS.cells.set 6 (.int .i64 y)) = ({ HOS with c := y } : Opr).cells := rfl
                obtain ⟨HOS2, hos2⟩ : ∃ o2, o2 = ({ HOS with c := y } : Opr) := ⟨_, rfl⟩
                rw [hcl, ← hos2] at HO5
                obtain ⟨q0, q1, q2, q3, q4, q5, q6, q7⟩ := (HA.out.turn hgs hs5 ho5).op.eight
                have qf := (HA.out.turn hgs hs5 ho5).op.2.1
                obtain ⟨r0, r1, r2, r3, r4, r5, r6, r7⟩ := (HA.out.turn hgs hs5 ho5).res.eight
                have rf := (HA.out.turn hgs hs5 ho5).res.2.1
                have hne := HO5.out.ne
                clear hs5 ho5 hcl HA HAB hg4
                go_wp2
                go_meet
                case rel => exact ⟨HOS2, _, rfl, _, by omega, HO5.out⟩
              · have e4 : (z == 4) = false := by simpa using h4
                by_cases h5 : z = 5
                · subst h5
                  have HA := Lib.hid (HO4.out.alloc (.cells #[.int .i64 (-4), .int .i64 4, .int .i64 1] 2))
                  have HAB := Lib.hid (Bx.new w4 [.int .i64 (-4), .int .i64 4, .int .i64 1] 2)
                  have hg4 : w4.heap.size ≠ gs := by have := HO4.out.src.lt; omega
                  go_wp2_with fail
                  refine (among3 HA.out.src (by omega) HAB.out hg4).mono ?_
                  rintro e w5 ⟨y, rfl, hy, hs5, ho5⟩
                  have HO5 := Lib.hid ((HA.out.turn hgs hs5 ho5).set hgs 7 (.int .i64 y))
                  have hcl : (HOS.cells.set 7 (.int .i64 y)) = ({ HOS with r := y } : Opr).cells := rfl
                  obtain ⟨HOS2, hos2⟩ : ∃ o2, o2 = ({ HOS with r := y } : Opr) := ⟨_, rfl⟩
                  rw [hcl, ← hos2] at HO5
                  obtain ⟨q0, q1, q2, q3, q4, q5, q6, q7⟩ := (HA.out.turn hgs hs5 ho5).op.eight
                  have qf := (HA.out.turn hgs hs5 ho5).op.2.1
                  obtain ⟨r0, r1, r2, r3, r4, r5, r6, r7⟩ := (HA.out.turn hgs hs5 ho5).res.eight
                  have rf := (HA.out.turn hgs hs5 ho5).res.2.1
                  have hne := HO5.out.ne
                  clear hs5 ho5 hcl HA HAB hg4
                  go_wp2
                  go_meet
                  case rel => exact ⟨HOS2, _, rfl, _, by omega, HO5.out⟩
                · have e5 : (z == 5) = false := by simpa using h5
                  have HO5 := HO4
                  obtain ⟨HOS2, hos2⟩ : ∃ o2, o2 = HOS := ⟨_, rfl⟩
                  rw [← hos2] at HO5
                  obtain ⟨q0, q1, q2, q3, q4, q5, q6, q7⟩ := HO4.out.op.eight
                  have qf := HO4.out.op.2.1
                  obtain ⟨r0, r1, r2, r3, r4, r5, r6, r7⟩ := HO4.out.res.eight
                  have rf := HO4.out.res.2.1
                  have hne := HO5.out.ne
                  go_wp2
                  go_meet
                  case rel => exact ⟨HOS2, _, rfl, _, by omega, HO5.out⟩
    case rest =>
      obtain ⟨o, w5, rfl, HO5⟩ := hcut
      obtain ⟨K', hk, hO⟩ := HO5.out
      have HO6 := Lib.hid hO
      obtain ⟨q0, q1, q2, q3, q4, q5, q6, q7⟩ := hO.op.eight
      obtain ⟨r0, r1, r2, r3, r4, r5, r6, r7⟩ := hO.res.eight
      have rf := hO.res.2.1
      clear hO HO5
      go_wp2
      refine bodyPost_ret (v := o.v) (by simp [results, Try.results63, go_sem, r0, r1, r2, r3, r4, r5, r6, r7, World.cell?_setCell_other, Opr.v]) rfl ?_
      exact ⟨o, rfl, (HO6.out.src.more hk hK).set8 hgs _ _ _ _ _ _ _ _, HO6.out.only.set8 (Nat.le_refl _) _ _ _ _ _ _ _ _⟩

end Go.Proofs.Ytmcalioldphfeaa

/-
  The reference's l07Bent: a drawn machine that is valid stands in rows of its own.
-/
namespace Go.Proofs.Ytmcalioldphfeaa
set_option linter.unusedVariables false
set_option linter.unusedSimpArgs false
open Go.RowKit

def BentM2 (w : World) (gs : Nat) (K : Int) (e : Ending) (w' : World) : Prop := ∃ m v, e = .returned v ∧ RdMo w' w.heap.size v m ∧ SmM m ∧ Src w' gs K ∧ Only gs (gs + 1) w w' ∧ (okM m = true → ∃ B g S, w.heap.size < B ∧ MSt w' B g m S ∧ v = .agg (mcV m.wd m.rk (S 1).v (S 2).v (S 3).v (S 4).v (S 5).v))
structure BSt2 (w0 : World) (gs gm B : Nat) (K : Int) (wd rk : Int) (F G C L D : Value) (m : Mc) (wx : World) : Prop where
  src : Src wx gs K
  only : Only gs (gs + 1) w0 wx
  res : Bx wx w0.heap.size zeroM
  box : CellsAt wx gm 0 [.int .i64 wd, .int .i64 rk, F, G, C, L, D]
  sm : SmM m
  rd : RdMo wx B (.agg (mcV wd rk F G C L D)) m
  lt : w0.heap.size < B ∧ w0.heap.size ≠ gm
  ok : okM m = true → ∃ S, MSt wx B gm m S ∧ wd = m.wd ∧ rk = m.rk ∧ F = (S 1).v ∧ G = (S 2).v ∧ C = (S 3).v ∧ L = (S 4).v ∧ D = (S 5).v
theorem OkP.tail_bad {m : Mc} (h : OkP m) : okM { m with fr := m.fr.tail } = false := by
  cases e : okM { m with fr := m.fr.tail }
  · rfl
  · have h1 := (okM_iff.1 e).fr
    have h2 : ((m.fr.tail).length : Int) = m.wd := h1
    have h3 := h.fr
    have h4 := h.wd
    rw [List.length_tail] at h2
    omega
theorem BSt2.of {w0 wx : World} {gs gm B : Nat} {K : Int} {m : Mc} {S : Nat → Spot} (hs : Src wx gs K) (ho : Only gs (gs + 1) w0 wx) (hr : Bx wx w0.heap.size zeroM) (hM : MSt wx B gm m S) (hsm : SmM m) (hlt : w0.heap.size < B) : BSt2 w0 gs gm B K m.wd m.rk (S 1).v (S 2).v (S 3).v (S 4).v (S 5).v m wx :=
  ⟨hs, ho, hr, hM.cells, hsm, fun wy hk hz => (hM.keep (fun j q hq => hk q (hM.sp.lt hq).1 (hM.sp.lt hq).2)).val, ⟨hlt, by have := hM.size.2; omega⟩, fun _ => ⟨S, hM, rfl, rfl, rfl, rfl, rfl, rfl, rfl⟩⟩
def BCut2 (w0 : World) (gs gm B : Nat) (K : Int) (wx : World) : Prop :=
  ∃ wd rk A1 n1 c1 A2 n2 c2 A3 n3 c3 A4 n4 c4 A5 n5 c5 m, BSt2 w0 gs gm B K wd rk (.slice A1 n1 c1) (.slice A2 n2 c2) (.slice A3 n3 c3) (.slice A4 n4 c4) (.slice A5 n5 c5) m wx
theorem BCut2.of {w0 wx : World} {gs gm B : Nat} {K K' : Int} {m : Mc} {S : Nat → Spot} (hd : DX w0 gs K' wx) (h1 : K' ≤ K) (h2 : K ≤ 1000000000) (hM : MSt wx B gm m S) (hsm : SmM m) (hlt : w0.heap.size < B) : BCut2 w0 gs gm B K wx := by
  have h := BSt2.of (hd.src.more h1 h2) hd.only hd.res hM hsm hlt
  obtain ⟨A1, c1, A2, c2, A3, c3, A4, c4, A5, c5, q1, q2, q3, q4, q5⟩ := hM.slices
  rw [q1, q2, q3, q4, q5] at h
  exact ⟨_, _, _, _, _, _, _, _, _, _, _, _, _, _, _, _, _, _, h⟩
theorem BCut2.tail {w0 wx : World} {gs gm B b n c : Nat} {K K' : Int} {m : Mc} {S : Nat → Spot} (hs : Src wx gs K') (h1 : K' ≤ K) (h2 : K ≤ 1000000000) (ho : Only gs (gs + 1) w0 wx) (hr : Bx wx w0.heap.size zeroM) (hM : MSt wx B gm m S) (hsm : SmM { m with fr := m.fr.tail }) (hlt : w0.heap.size < B) (hgs : gs < w0.heap.size)
    (hv : (S 1).v = .slice (some ⟨b, 0, none⟩) n c) (hn : 0 < n) (hbad : okM { m with fr := m.fr.tail } = false) : BCut2 w0 gs gm B K (wx.setCell ⟨gm, 2, none⟩ (.slice (some ⟨b, 0 + 1 * 1, none⟩) (n - 1) (c - 1))) := by
  obtain ⟨A1, c1, A2, c2, A3, c3, A4, c4, A5, c5, q1, q2, q3, q4, q5⟩ := hM.slices
  have hgm := hM.size
  have hbx := hM.sp.own 0
  rw [hM.box] at hbx
  have hbx : wx.ownsRow B 32 7 (.slice (some ⟨gm, 0, none⟩) 1 1) 1 [.int .i64 m.wd, .int .i64 m.rk, (S 1).v, (S 2).v, (S 3).v, (S 4).v, (S 5).v] := hbx
  have hbx2 := own_setx (i := 2) (.slice (some ⟨b, 0 + 1 * 1, none⟩) (n - 1) (c - 1)) hbx (by omega)
  have hS0 : ∀ j q, (S j).v.ownBlock = some q → j ≠ 0 → q ≠ gm := fun j q hq hj e => hM.sp.dis (Ne.symm hj) hM.gbox (by rw [hq, e])
  have key : ∀ wy : World, (∀ q, B ≤ q → q < wx.heap.size → q ≠ gm → wy.heap[q]? = wx.heap[q]?) → wx.heap.size ≤ wy.heap.size → RdM wy wy.heap.size (.agg (mcV m.wd m.rk (.slice (some ⟨b, 0 + 1 * 1, none⟩) (n - 1) (c - 1)) (S 2).v (S 3).v (S 4).v (S 5).v)) { m with fr := m.fr.tail } := fun wy hk hz => by
    have hro : ∀ j, j ≠ 0 → (S j).owned wy B := fun j hj => own_keep (hM.sp.own j) (fun q hq => hk q (hM.sp.lt hq).1 (hM.sp.lt hq).2 (hS0 j q hq hj))
    have hrd : ∀ j l, j ≠ 0 → S j = spI (S j).v l → RdI wy wy.heap.size (S j).v l ∧ CapOk (S j).v := fun j l hj e => spI_rd (hro j hj) e
    have how : ∀ {j : Nat} {E : TypeId} {sz n : Nat} {xs : List Value}, j ≠ 0 → S j = ⟨E, sz, (S j).v, n, xs⟩ → wy.ownsRow B E sz (S j).v n xs := fun {j E sz n xs} hj e => by
      have h1 := hro j hj
      rw [e] at h1
      exact h1
    refine ⟨_, _, _, _, _, rfl, ?_, ?_, ?_, ?_, (hrd 5 _ (by omega) hM.dr).1, (hrd 5 _ (by omega) hM.dr).2⟩
    · obtain ⟨xs, e, hx⟩ := hM.fr
      have h9 : RdLL wy wy.heap.size (S 1).v m.fr := RdN.of_row (how (by omega) e) (fun k x hk => ⟨[(S (iF k)).v], rfl, fun j u hu => by
        obtain rfl : j = 0 := by have := (List.getElem?_eq_some_iff.1 hu).1; simp at this; omega
        rw [Nat.mul_one, Nat.add_zero, hx k (List.getElem?_eq_some_iff.1 hk).1]
        exact hu, _, rfl, hrd _ _ (by unfold iF; omega) (hM.fl k x hk)⟩)
      rw [hv] at h9
      exact RdN.tail_ h9 hn
    · obtain ⟨xs, e, hx⟩ := hM.bk
      exact RdN.of_row (how (by omega) e) (fun k x hk => ⟨[(S (iB k)).v], rfl, fun j u hu => by
        obtain rfl : j = 0 := by have := (List.getElem?_eq_some_iff.1 hu).1; simp at this; omega
        rw [Nat.mul_one, Nat.add_zero, hx k (List.getElem?_eq_some_iff.1 hk).1]
        exact hu, _, rfl, hrd _ _ (by unfold iB; omega) (hM.bl k x hk)⟩)
    · exact RdS.of_own Car.len (OwC.of_own (how (by omega) hM.cs))
    · obtain ⟨xs, e, hx⟩ := hM.ls
      exact RdN.of_row (how (by omega) e) (fun k x hk => ⟨_, rfl, hx k x hk, _, rfl, hrd _ _ (by unfold iP; omega) (hM.pl k x hk)⟩)
  rw [q2, q3, q4, q5] at key
  refine ⟨_, _, _, _, _, _, _, _, _, _, _, _, _, _, _, _, _, _, (⟨(hs.more h1 h2).setNew (by omega) _ _, ho.setNew (by omega) _ _, hr.far (by omega) _ _, ?_, hsm, fun wy hk hz => key wy (fun q hq hl hne => (hk q hq (by simpa using hl)).trans (Below.heap_setCell _ _ _ _ hne)) (by simpa using hz), ⟨hlt, by omega⟩, fun h => absurd h (by rw [hbad]; decide)⟩ : BSt2 w0 gs gm B K m.wd m.rk (.slice (some ⟨b, 0 + 1 * 1, none⟩) (n - 1) (c - 1)) (.slice A2 _ c2) (.slice A3 _ c3) (.slice A4 _ c4) (.slice A5 _ c5) _ _)⟩
  intro j u hu
  have h8 := (own_cellx hbx2 (i := j) (u := u) (by rw [q2, q3, q4, q5]; exact hu)).1
  rw [show 0 + j = j from Nat.zero_add j]
  exact h8
set_option maxHeartbeats 40000000 in
set_option maxRecDepth 100000 in
theorem l07Bent2_any {w : World} {gs : Nat} {K : Int} (hS : Src w gs K) (hK : K + 328 ≤ 1000000000) :
    Calls Try.prog 62 #[.pointer (some ⟨gs, 0, none⟩)] w (BentM2 w gs (K + 328)) := by
  have hgs := hS.lt
  have HS := Lib.hid hS
  have HR := Lib.hid (Bx.new w zeroM 32)
  clear hS
  go_enter Try.func62, Try.ntmps62
  go_wp2_with fail
  refine (l07Draw_any (most := 16) (HS.out.alloc _) (by omega) (by omega) (by omega)).mono ?_
  rintro e w1 ⟨m, S, g0, v, l, rfl, hok, hwd2, hM, -, -, -, hs1, ho1⟩
  rw [World.size_alloc] at hM
  have hz1 : w.heap.size + 1 ≤ w1.heap.size := by have := ho1.size; rw [World.size_alloc] at this; exact this
  obtain ⟨S2, hM2, hS2, hb2⟩ := hM.rebox hz1
  obtain ⟨A1, c1, A2, c2, A3, c3, A4, c4, A5, c5, q1, q2, q3, q4, q5⟩ := hM.slices
  rw [q1, q2, q3, q4, q5] at hM2
  rw [q1, q2, q3, q4, q5]
  have M2 := Lib.hid hM2
  have E2 := Lib.hid hS2
  have S1 := Lib.hid hs1
  have O1 := Lib.hid (((Only.refl gs (gs + 1) w).alloc (.cells zeroM.toArray 32)).trans ho1)
  have R1 := Lib.hid (HR.out.only ho1 (by omega))
  have HQ := Lib.hid (show (S2 1).v = .slice A1 m.fr.length c1 ∧ (S2 2).v = .slice A2 m.bk.length c2 ∧ (S2 3).v = .slice A3 m.cs.length c3 ∧ (S2 4).v = .slice A4 m.ls.length c4 ∧ (S2 5).v = .slice A5 m.dr.length c5 from ⟨(congrArg Spot.v (hS2 1 (by omega))).trans q1, (congrArg Spot.v (hS2 2 (by omega))).trans q2, (congrArg Spot.v (hS2 3 (by omega))).trans q3, (congrArg Spot.v (hS2 4 (by omega))).trans q4, (congrArg Spot.v (hS2 5 (by omega))).trans q5⟩)
  have hP := okM_iff.1 hok
  have HP := Lib.hid hP
  clear hM hs1 ho1 hM2 hS2 hb2 q1 q2 q3 q4 q5 hok hP HR HS
  go_wp2_with fail
  have SA := Lib.hid (S1.out.alloc (.cells (mcV m.wd m.rk (.slice A1 m.fr.length c1) (.slice A2 m.bk.length c2) (.slice A3 m.cs.length c3) (.slice A4 m.ls.length c4) (.slice A5 m.dr.length c5)) 32))
  have OA := Lib.hid (O1.out.alloc (.cells (mcV m.wd m.rk (.slice A1 m.fr.length c1) (.slice A2 m.bk.length c2) (.slice A3 m.cs.length c3) (.slice A4 m.ls.length c4) (.slice A5 m.dr.length c5)) 32))
  have RA := Lib.hid (R1.out.alloc (.cells (mcV m.wd m.rk (.slice A1 m.fr.length c1) (.slice A2 m.bk.length c2) (.slice A3 m.cs.length c3) (.slice A4 m.ls.length c4) (.slice A5 m.dr.length c5)) 32))
  generalize w1.alloc (.cells (mcV m.wd m.rk (.slice A1 m.fr.length c1) (.slice A2 m.bk.length c2) (.slice A3 m.cs.length c3) (.slice A4 m.ls.length c4) (.slice A5 m.dr.length c5)) 32) = wA at *
  refine (pick_any wA gs 16 (K + 324) (by have h9 := SA.out; rwa [show K + 4 + 20 * 16 = K + 324 by omega] at h9) (by omega)).mono ?_
  rintro e w2 ⟨k, rfl, hk, hs2, ho2⟩
  have hgB : gs < w.heap.size + 1 := by omega
  have M3 := Lib.hid (M2.out.only ho2 hgB)
  have D3 := Lib.hid (⟨hs2, OA.out.trans ho2, RA.out.only ho2 (by omega)⟩ : DX w gs (K + 324 + 2) w2)
  clear hk hs2 ho2 SA OA RA S1 O1 R1 M2
  have hgm : w1.heap.size < w2.heap.size := M3.out.size.1
  have hgs2 : gs < w1.heap.size := by omega
  generalize w1.heap.size = gm at *
  obtain ⟨i0, hi, hz0', hz1', hz2'⟩ := info_parts info_int
  go_upto_block 0 with fail
  go_cut [] from 12 to 83 (fun wx => ∃ wy : World, wy = wx ∧ Hid (BCut2 w gs gm (w.heap.size + 1) (K + 328) wx))
  case first =>
    obtain ⟨x0, x1, x2, x3, x4, x5, x6⟩ := M3.out.cells.seven
    rw [HQ.out.1] at x2
    have xf := M3.out.frozen
    by_cases k0 : k = 0
    · subst k0
      go_wp2_with fail
      refine (among3 (D3.out.alloc _).src (by omega) (Bx.new w2 [_, _, _] _) (by omega)).mono ?_
      rintro e w4 ⟨r, rfl, -, hs4, ho4⟩
      have D4 := (D3.out.alloc _).turn hgs hs4 ho4
      have M4 := (M3.out.below ((Below.refl _ _).alloc (Nat.le_refl _) _)).only ho4 hgB
      obtain ⟨z0, z1, z2, z3, z4, z5, z6⟩ := M4.cells.seven
      have zf := M4.frozen
      have HX := Lib.hid (BCut2.of (K := K + 328) (D4.set hgs (b := gm) (by omega) 1 (.int .i64 r)) (by omega) (by omega) M4.setRk ((SmM.of HP.out).rk r) (by omega))
      clear hs4 ho4 M4 D4 x0 x1 x2 x3 x4 x5 x6 xf z2 z3 z4 z5 z6
      go_wp2_with fail
      go_meet
      exact ⟨_, rfl, HX.out⟩
    · by_cases k1 : k = 1
      · subst k1
        obtain ⟨b, c, hv, hbB, hbw, hnc, hob⟩ := M3.out.gF (by have := HP.out.fr; omega)
        have e9 := hv
        rw [HQ.out.1] at e9
        injection e9 with e1 e2 e3
        subst e1 e3
        have hn1 : 1 < m.fr.length := by have := HP.out.fr; omega
        have HX := Lib.hid (BCut2.tail (K := K + 328) D3.out.src (by omega) (by omega) D3.out.only D3.out.res M3.out (SmM.tail HP.out) (by omega) hgs hv (by omega) HP.out.tail_bad)
        have hi1 : (1 : Int) ≤ (m.fr.length : Int) := by omega
        have hc1 : ¬ c1 = 1 := by omega
        clear hv hob
        go_wp2_with fail
        go_meet
        exact ⟨_, rfl, HX.out⟩
      · by_cases k2 : k = 2
        · subst k2
          have hcs : m.cs.length = 4 := HP.out.cs
          obtain ⟨bc, cp, hvc, -, hbB, hbw, hob, -, -, -⟩ := M3.out.cars 1 (by omega) (by omega)
          rw [hvc] at x4
          have hi0 : (0 : Int) < (m.cs.length : Int) := by omega
          have hcs0 : 0 < m.cs.length := by omega
          have hgc : bc ≠ gm := fun e => M3.out.sp.dis (i := 3) (j := 0) (by omega) (by rw [hob, e]) M3.out.gbox
          have hfar := far_cell hgc
          clear hcs xf
          go_wp2_with fail
          go_region_held3 (fun w' => w'.cell? ⟨gm, 4, none⟩ = some (.slice (some ⟨bc, 0, none⟩) m.cs.length cp))
            (first | with_reducible exact x4 | with_reducible exact z4 | (simp only [drew_cell, hfar]; with_reducible exact z4) | go_keep)
            (first
              | (go_at_call 110; refine (among3 (K := K + 324 + 2) (by first | exact (D3.out.alloc _).drew.src | exact (D3.out.drew.alloc _).src) (by omega) (by first | exact (Bx.new w2 [_, _, _] _).drew | exact (Bx.new w2.drew [_, _, _] _)) (by omega)).mono ?_; rintro e w4 ⟨r, rfl, -, hs4, ho4⟩; have D4 := (DX.turn (by first | exact (D3.out.alloc _).drew | exact (D3.out.drew.alloc _)) hgs hs4 ho4); have M4 := MSt.only (by first | exact (M3.out.below ((Below.refl _ _).alloc (Nat.le_refl _) _)).drew | exact M3.out.drew.below ((Below.refl _ _).alloc (Nat.le_refl _) _)) ho4 hgB; have z4 : w4.cell? ⟨gm, 4, none⟩ = some (.slice (some ⟨bc, 0, none⟩) m.cs.length cp) := (by rw [← hvc]; exact M4.cells.seven.2.2.2.2.1); obtain ⟨bc', cp', hvc', -, -, -, hob', -, z9, zf⟩ := M4.cars 1 (by omega) (by omega); have ebc : bc' = bc := (by rw [hob] at hob'; injection hob' with hob'; exact hob'.symm); subst ebc; have z9' : w4.cell? ⟨bc', 1, none⟩ = some (.int .i64 (carAt m 1).p) := z9))
          all_goals
            obtain ⟨S5, M5, -, -⟩ := M4.setCp (c := 1) (by omega) (by omega) hob' r (Mv.refl _ _)
            have HX := Lib.hid (BCut2.of (K := K + 328) (D4.set hgs (b := bc') (by omega) 1 (.int .i64 r)) (by omega) (by omega) M5 (SmM.setCs HP.out _) (by omega))
            clear hs4 ho4 M4 D4 M5 x0 x1 x2 x3 x4 x5 x6 z4 z9 zf z9'
            go_wp2_with fail
            go_meet
            exact ⟨_, rfl, HX.out⟩
        · by_cases k3 : k = 3
          · subst k3
            have hfr0 : 0 < m.fr.length := by have := HP.out.fr; omega
            obtain ⟨bF, cF, hvF, hFB, hFw, hFn, hoF⟩ := M3.out.gF hfr0
            obtain ⟨y0, yf0, ysp⟩ := M3.out.listF hfr0 hoF
            have e9 := hvF
            rw [HQ.out.1] at e9
            injection e9 with e1 e2 e3
            subst e1 e3
            have hi0 : (0 : Int) < (m.fr.length : Int) := by omega
            have hl4 : m.fr[0].length ≤ 4 := HP.out.f4 _ (List.getElem_mem hfr0)
            have hfl : m.fr[0]? = some m.fr[0] := List.getElem?_eq_getElem hfr0
            generalize m.fr[0] = l at *
            obtain ⟨Al, cl, hvl, -, -⟩ := (OwC.of_own (spI_own (M3.out.sp.own _) ysp)).cells
            rw [hvl] at y0
            have hgF : bF ≠ gm := fun e => M3.out.sp.dis (i := 1) (j := 0) (by omega) (by rw [hoF, e]) M3.out.gbox
            have hfar := far_cell hgF
            have HW1 : Hid (some gm ≠ (Value.slice Al l.length cl).ownBlock) := fun e => M3.out.sp.dis (i := 0) (j := iF 0) (by unfold iF; omega) M3.out.gbox (by rw [hvl, ← e])
            have HW2 : Hid (some bF ≠ (Value.slice Al l.length cl).ownBlock) := fun e => M3.out.sp.dis (i := 1) (j := iF 0) (by unfold iF; omega) hoF (by rw [hvl, ← e])
            have HVL := Lib.hid hvl
            have HOF := Lib.hid hoF
            have HYS := Lib.hid ysp
            have HFL := Lib.hid hfl
            clear hvF hoF ysp hvl hfl hFn xf yf0
            go_wp2_with fail
            rw [show ({ dst := some 40, op := Op.load 25 (Operand.tmp 39), type := 25, pos := "l07_machine.go:448", after := #[{ on := 4, ground := Ground.data }], guard := none } : Oper) = ldBt3 from rfl]
            go_region_held3 (fun w' => w'.cell? ⟨gm, 2, none⟩ = some (.slice (some ⟨bF, 0, none⟩) m.fr.length c1))
              (first | with_reducible exact x2 | with_reducible exact z2 | with_reducible exact q2 | (simp only [drew_cell, hfar]; with_reducible exact q2) | go_keep)
              (first
                | (go_at_call 109; refine (pick_any _ gs 4 (K + 324 + 2) (by exact D3.out.drew.src) (by omega)).mono ?_; rintro e w4 ⟨r, rfl, -, hs4, ho4⟩; have D4 := D3.out.drew.turn hgs hs4 ho4; have M4 := MSt.only (w := w2.drew) M3.out.drew ho4 hgB; have z2 : w4.cell? ⟨gm, 2, none⟩ = some (.slice (some ⟨bF, 0, none⟩) m.fr.length c1) := (by rw [← HQ.out.1]; exact M4.cells.seven.2.2.1); have z9 : w4.cell? ⟨bF, 0, none⟩ = some (.slice Al l.length cl) := (by rw [← HVL.out]; exact (M4.listF hfr0 HOF.out).1); have zf := (M4.listF hfr0 HOF.out).2.1; have z9a := (fun o => ((((Below.refl w4.heap.size w4).alloc (Nat.le_refl _) o).cell (p := ⟨bF, 0, none⟩) (M4.sp.lt HOF.out).2).trans z9 : (w4.alloc o).cell? ⟨bF, 0, none⟩ = some (.slice Al l.length cl))); have zo : w4.ownsRow (w.heap.size + 1) 2 1 (.slice Al l.length cl) l.length (vI l) := (by rw [← HVL.out]; exact spI_own (M4.sp.own _) HYS.out); have hz4 := ho4.size)
                | (refine step_append_any _ (by rfl) _ _ _ (by rfl) (w.heap.size + 1) 2 i0 _ 1 8 Try.underlying25 hi hz0' hz1' hz2' rfl (by decide) (.slice Al l.length cl) l.length (vI l) (by rfl) (zo.alloc _) (w4.heap.size + 1) (some ⟨w4.heap.size, 0, none⟩) 1 1 [.int .i64 r] (by rfl) (reads_one w4 r _) (int_one r) (by unfold maxLen; omega) (by omega) (by simp; have := M4.size; omega) ?_; intro v5 w5 hown5 hg5 hat5; obtain ⟨Ax, cx, hvx, -, -⟩ := (OwC.of_own hown5).cells; subst hvx; have a2 := ((Below.refl w4.heap.size w4).alloc (Nat.le_refl _) (.cells #[.int .i64 r] 2)); have q2 : w5.cell? ⟨gm, 2, none⟩ = _ := hg5.cell ((a2.cell (p := ⟨gm, 2, none⟩) M4.size.1).trans z2) HW1.out; have q9 : w5.cell? ⟨bF, 0, none⟩ = _ := hg5.cell ((a2.cell (p := ⟨bF, 0, none⟩) (M4.sp.lt HOF.out).2).trans z9) HW2.out; have qf : ∀ o, w5.frozen? ⟨bF, o, none⟩ = false := fun o => (World.frozen?_of_block (a := ⟨bF, o, none⟩) (hg5.block bF (by have := (M4.sp.lt HOF.out).2; simp; omega) HW2.out)).trans ((a2.frozen (p := ⟨bF, o, none⟩) (M4.sp.lt HOF.out).2).trans (zf o))))
            all_goals
              have M4a := M4.below a2
              have hb5 : Below (w.heap.size + 1) (w4.alloc (.cells #[.int .i64 r] 2)) w5 := Below.grown (Below.refl _ _) hg5 (by have := M4a.size; omega) (fun k hk => (World.ownsRow.lt zo k hk).1)
              have sp5 := M4a.sp.app (iF 0) (spI (.slice Ax (l.length + 1) cx) (l ++ [r])) (own_spI hown5) (by rw [HVL.out]; exact hg5) (by rw [HVL.out]; exact hat5)
              have M5 := M4.setF (k := 0) hfr0 HOF.out sp5
              have HX := Lib.hid (BCut2.of (K := K + 328) (((D4.alloc _).below hgs hb5).set hgs (b := bF) (by omega) 0 (.slice Ax (l.length + 1) cx)) (by omega) (by omega) M5 (SmM.addF HP.out l r hl4) (by omega))
              clear hs4 ho4 M4 D4 M5 M4a hb5 sp5 hown5 hg5 hat5 a2 zo x0 x1 x2 x3 x4 x5 x6 z2 z9 z9a zf q2
              go_wp2_with fail
              go_meet
              exact ⟨_, rfl, HX.out⟩
          · by_cases k4 : k = 4
            · subst k4
              have hdl : m.dr.length ≤ 300 := HP.out.drlen
              rw [HQ.out.2.2.2.2] at x6
              have HW1 : Hid (some gm ≠ (Value.slice A5 m.dr.length c5).ownBlock) := fun e => M3.out.sp.dis (i := 0) (j := 5) (by omega) M3.out.gbox (by rw [HQ.out.2.2.2.2, ← e])
              clear xf
              go_wp2_with fail
              rw [show ({ dst := some 49, op := Op.load 25 (Operand.tmp 48), type := 25, pos := "l07_machine.go:450", after := #[{ on := 0, ground := Ground.data }], guard := none } : Oper) = ldBt4 from rfl]
              go_region_held3 (fun _ => True)
                (trivial)
                (first
                  | (go_at_call 109; refine (pick_any _ gs 3 (K + 324 + 2) (by exact D3.out.drew.src) (by omega)).mono ?_; rintro e w4 ⟨r, rfl, -, hs4, ho4⟩; have D4 := D3.out.drew.turn hgs hs4 ho4; have M4 := MSt.only (w := w2.drew) M3.out.drew ho4 hgB; have z6 : w4.cell? ⟨gm, 6, none⟩ = some (.slice A5 m.dr.length c5) := (by rw [← HQ.out.2.2.2.2]; exact M4.cells.seven.2.2.2.2.2.2); have zf := M4.frozen; have z6a := (fun o => ((((Below.refl w4.heap.size w4).alloc (Nat.le_refl _) o).cell (p := ⟨gm, 6, none⟩) M4.size.1).trans z6 : (w4.alloc o).cell? ⟨gm, 6, none⟩ = some (.slice A5 m.dr.length c5))); have zo : w4.ownsRow (w.heap.size + 1) 2 1 (.slice A5 m.dr.length c5) m.dr.length (vI m.dr) := (by rw [← HQ.out.2.2.2.2]; exact spI_own (M4.sp.own _) M4.dr))
                  | (refine step_append_any _ (by rfl) _ _ _ (by rfl) (w.heap.size + 1) 2 i0 _ 1 8 Try.underlying25 hi hz0' hz1' hz2' rfl (by decide) (.slice A5 m.dr.length c5) m.dr.length (vI m.dr) (by rfl) (zo.alloc _) (w4.heap.size + 1) (some ⟨w4.heap.size, 0, none⟩) 1 1 [.int .i64 r] (by rfl) (reads_one w4 r _) (int_one r) (by unfold maxLen; omega) (by omega) (by simp; have := M4.size; omega) ?_; intro v5 w5 hown5 hg5 hat5; obtain ⟨Ax, cx, hvx, -, -⟩ := (OwC.of_own hown5).cells; subst hvx; have a2 := ((Below.refl w4.heap.size w4).alloc (Nat.le_refl _) (.cells #[.int .i64 r] 2)); have q6 : w5.cell? ⟨gm, 6, none⟩ = _ := hg5.cell ((a2.cell (p := ⟨gm, 6, none⟩) M4.size.1).trans z6) HW1.out; have qf : ∀ o, w5.frozen? ⟨gm, o, none⟩ = false := fun o => (World.frozen?_of_block (a := ⟨gm, o, none⟩) (hg5.block gm (by have := M4.size.1; simp; omega) HW1.out)).trans ((a2.frozen (p := ⟨gm, o, none⟩) M4.size.1).trans (zf o))))
              all_goals
                have M4a := M4.below a2
                have hb5 : Below (w.heap.size + 1) (w4.alloc (.cells #[.int .i64 r] 2)) w5 := Below.grown (Below.refl _ _) hg5 (by have := M4a.size; omega) (fun k hk => (World.ownsRow.lt zo k hk).1)
                have sp5 := M4a.sp.app 5 (spI (.slice Ax (m.dr.length + 1) cx) (m.dr ++ [r])) (own_spI hown5) (by rw [HQ.out.2.2.2.2]; exact hg5) (by rw [HQ.out.2.2.2.2]; exact hat5)
                have M5 := M4.setDr sp5
                have HX := Lib.hid (BCut2.of (K := K + 328) (((D4.alloc _).below hgs hb5).set hgs (b := gm) (by omega) 6 (.slice Ax (m.dr.length + 1) cx)) (by omega) (by omega) M5 (SmM.addD HP.out r) (by omega))
                clear hs4 ho4 M4 D4 M5 M4a hb5 sp5 hown5 hg5 hat5 a2 zo x0 x1 x2 x3 x4 x5 x6 z6 z6a zf
                go_wp2_with fail
                go_meet
                exact ⟨_, rfl, HX.out⟩
            · by_cases k5 : k = 5
              · subst k5
                by_cases hls : m.ls.length = 0
                · have hls' : ¬ (0 : Int) < (m.ls.length : Int) := by omega
                  have HX := Lib.hid (BCut2.of (K := K + 328) D3.out (by omega) (by omega) M3.out (SmM.of HP.out) (by omega))
                  rw [HQ.out.2.2.2.1] at x5
                  clear x0 x1 x2 x3 x4 x6 xf hls
                  go_wp2_with fail
                  go_meet
                  exact ⟨_, rfl, HX.out⟩
                · have hl0 : 0 < m.ls.length := by omega
                  obtain ⟨xs4, e4, hx4⟩ := M3.out.ls
                  obtain ⟨bL, cL, hvL, hLB, hLw, hLn, hoL⟩ := row_slice (M3.out.owned e4) hl0
                  have hlx : m.ls[0]? = some m.ls[0] := List.getElem?_eq_getElem hl0
                  have hp4 : m.ls[0].ps.length ≤ 4 := (ok_loop (okM_iff.2 HP.out) hlx).2
                  generalize m.ls[0] = x at *
                  have e9 := hvL
                  rw [HQ.out.2.2.2.1] at e9
                  injection e9 with e1 e2 e3
                  subst e1 e3
                  rw [HQ.out.2.2.2.1] at x5
                  have ysp := M3.out.pl 0 x hlx
                  obtain ⟨Al, cl, hvl, -, -⟩ := (OwC.of_own (spI_own (M3.out.sp.own _) ysp)).cells
                  have y0 := (Spot.cell (M3.out.sp.own 4) hoL (x := (S2 (iP 0)).v) (i := 5) (by rw [e4]; exact hx4 0 x hlx 5 _ rfl)).1
                  rw [hvl] at y0
                  have hi0 : (0 : Int) < (m.ls.length : Int) := by omega
                  have hgL : bL ≠ gm := fun e => M3.out.sp.dis (i := 4) (j := 0) (by omega) (by rw [hoL, e]) M3.out.gbox
                  have hfar := far_cell hgL
                  have HW1 : Hid (some gm ≠ (Value.slice Al x.ps.length cl).ownBlock) := fun e => M3.out.sp.dis (i := 0) (j := iP 0) (by unfold iP; omega) M3.out.gbox (by rw [hvl, ← e])
                  have HW2 : Hid (some bL ≠ (Value.slice Al x.ps.length cl).ownBlock) := fun e => M3.out.sp.dis (i := 4) (j := iP 0) (by unfold iP; omega) hoL (by rw [hvl, ← e])
                  have HC4 : Hid (∀ W : World, MSt W (w.heap.size + 1) gm m S2 → W.cell? ⟨bL, 5, none⟩ = some (.slice Al x.ps.length cl) ∧ (∀ o, W.frozen? ⟨bL, o, none⟩ = false)) := fun W hM => by
                    obtain ⟨h1, h2⟩ := Spot.cell (hM.sp.own 4) hoL (x := (S2 (iP 0)).v) (i := 5) (by rw [e4]; exact hx4 0 x hlx 5 _ rfl)
                    rw [hvl] at h1
                    exact ⟨h1, h2⟩
                  have HVL := Lib.hid hvl
                  have HOL := Lib.hid hoL
                  have HYS := Lib.hid ysp
                  have HLX := Lib.hid hlx
                  clear hvL hoL ysp hvl hlx hLn xf e4 hx4 hls
                  go_wp2_with fail
                  rw [show ({ dst := some 67, op := Op.load 25 (Operand.tmp 66), type := 25, pos := "l07_machine.go:453", after := #[{ on := 5, ground := Ground.data }], guard := none } : Oper) = ldBt5 from rfl]
                  go_region_held3 (fun w' => w'.cell? ⟨gm, 5, none⟩ = some (.slice (some ⟨bL, 0, none⟩) m.ls.length c4))
                    (first | with_reducible exact x5 | with_reducible exact z5 | with_reducible exact q5 | (simp only [drew_cell, hfar]; with_reducible exact q5) | go_keep)
                    (first
                      | (go_at_call 109; refine (pick_any _ gs 3 (K + 324 + 2) (by exact D3.out.drew.src) (by omega)).mono ?_; rintro e w4 ⟨r, rfl, ⟨hr0, hr1, -⟩, hs4, ho4⟩; replace hr1 := hr1 (by omega); have hwr : IntKind.i64.wrap (r - 1) = r - 1 := wrap_sm (by omega) (by omega); have D4 := D3.out.drew.turn hgs hs4 ho4; have M4 := MSt.only (w := w2.drew) M3.out.drew ho4 hgB; have z5 : w4.cell? ⟨gm, 5, none⟩ = some (.slice (some ⟨bL, 0, none⟩) m.ls.length c4) := (by rw [← HQ.out.2.2.2.1]; exact M4.cells.seven.2.2.2.2.2.1); have z9 := (HC4.out w4 M4).1; have zf := (HC4.out w4 M4).2; have z9a := (fun o => ((((Below.refl w4.heap.size w4).alloc (Nat.le_refl _) o).cell (p := ⟨bL, 5, none⟩) (M4.sp.lt HOL.out).2).trans z9 : (w4.alloc o).cell? ⟨bL, 5, none⟩ = some (.slice Al x.ps.length cl))); have zo : w4.ownsRow (w.heap.size + 1) 2 1 (.slice Al x.ps.length cl) x.ps.length (vI x.ps) := (by rw [← HVL.out]; exact spI_own (M4.sp.own _) HYS.out))
                      | (refine step_append_any _ (by rfl) _ _ _ (by rfl) (w.heap.size + 1) 2 i0 _ 1 8 Try.underlying25 hi hz0' hz1' hz2' rfl (by decide) (.slice Al x.ps.length cl) x.ps.length (vI x.ps) (by rfl) (zo.alloc _) (w4.heap.size + 1) (some ⟨w4.heap.size, 0, none⟩) 1 1 [.int .i64 (r - 1)] (by rfl) (reads_one w4 (r - 1) _) (int_one (r - 1)) (by unfold maxLen; omega) (by omega) (by simp; have := M4.size; omega) ?_; intro v5 w5 hown5 hg5 hat5; obtain ⟨Ax, cx, hvx, -, -⟩ := (OwC.of_own hown5).cells; subst hvx; have a2 := ((Below.refl w4.heap.size w4).alloc (Nat.le_refl _) (.cells #[.int .i64 (r - 1)] 2)); have q5 : w5.cell? ⟨gm, 5, none⟩ = _ := hg5.cell ((a2.cell (p := ⟨gm, 5, none⟩) M4.size.1).trans z5) HW1.out; have q9 : w5.cell? ⟨bL, 5, none⟩ = _ := hg5.cell ((a2.cell (p := ⟨bL, 5, none⟩) (M4.sp.lt HOL.out).2).trans z9) HW2.out; have qf : ∀ o, w5.frozen? ⟨bL, o, none⟩ = false := fun o => (World.frozen?_of_block (a := ⟨bL, o, none⟩) (hg5.block bL (by have := (M4.sp.lt HOL.out).2; simp; omega) HW2.out)).trans ((a2.frozen (p := ⟨bL, o, none⟩) (M4.sp.lt HOL.out).2).trans (zf o))))
                  all_goals
                    have M4a := M4.below a2
                    have hb5 : Below (w.heap.size + 1) (w4.alloc (.cells #[.int .i64 (r - 1)] 2)) w5 := Below.grown (Below.refl _ _) hg5 (by have := M4a.size; omega) (fun k hk => (World.ownsRow.lt zo k hk).1)
                    have sp5 := M4a.sp.app (iP 0) (spI (.slice Ax (x.ps.length + 1) cx) (x.ps ++ [r - 1])) (own_spI hown5) (by rw [HVL.out]; exact hg5) (by rw [HVL.out]; exact hat5)
                    have M5 := M4.setP (k := 0) HLX.out HOL.out sp5
                    have HX := Lib.hid (BCut2.of (K := K + 328) (((D4.alloc _).below hgs hb5).set hgs (b := bL) (by omega) 5 (.slice Ax (x.ps.length + 1) cx)) (by omega) (by omega) M5 (SmM.addP HP.out x (r - 1) hp4) (by omega))
                    clear hs4 ho4 M4 D4 M5 M4a hb5 sp5 hown5 hg5 hat5 a2 zo x0 x1 x2 x3 x4 x5 x6 z5 z9 z9a zf q5
                    go_wp2_with fail
                    go_meet
                    exact ⟨_, rfl, HX.out⟩
              · by_cases k6 : k = 6
                · subst k6
                  have hw24 := HP.out.wd
                  obtain ⟨hw1, hw2⟩ := hw24
                  go_wp2_with fail
                  refine (among3 (D3.out.alloc _).src (by omega) (Bx.new w2 [_, _, _] _) (by omega)).mono ?_
                  rintro e w4 ⟨r, rfl, -, hs4, ho4⟩
                  have D4 := (D3.out.alloc _).turn hgs hs4 ho4
                  have M4 := (M3.out.below ((Below.refl _ _).alloc (Nat.le_refl _) _)).only ho4 hgB
                  obtain ⟨z0, z1, z2, z3, z4, z5, z6⟩ := M4.cells.seven
                  have zf := M4.frozen
                  have HX := Lib.hid (BCut2.of (K := K + 328) (D4.set hgs (b := gm) (by omega) 0 (.int .i64 r)) (by omega) (by omega) M4.setWd ((SmM.of HP.out).wd r) (by omega))
                  clear hs4 ho4 M4 D4 x0 x1 x2 x3 x4 x5 x6 xf z2 z3 z4 z5 z6
                  go_wp2_with fail
                  go_meet
                  exact ⟨_, rfl, HX.out⟩
                · have HX := Lib.hid (BCut2.of (K := K + 328) D3.out (by omega) (by omega) M3.out (SmM.of HP.out) (by omega))
                  clear x0 x1 x2 x3 x4 x5 x6 xf
                  go_wp2_with fail
                  go_meet
                  exact ⟨_, rfl, HX.out⟩
  case rest =>
    obtain ⟨W3, hW3, HB⟩ := hcut
    subst hW3
    obtain ⟨wd, rk, A1', n1, c1', A2', n2, c2', A3', n3, c3', A4', n4, c4', A5', n5, c5', m', hB⟩ := HB.out
    have HB' := Lib.hid hB
    obtain ⟨x0, x1, x2, x3, x4, x5, x6⟩ := CellsAt.seven hB.box
    obtain ⟨y0, y1, y2, y3, y4, y5, y6⟩ := CellsAt.seven hB.res.1
    have yf := hB.res.2.1
    have hne := hB.lt.2
    clear hB HB D3 M3 HQ HP E2
    go_wp2
    refine bodyPost_ret (v := .agg (mcV wd rk (.slice A1' n1 c1') (.slice A2' n2 c2') (.slice A3' n3 c3') (.slice A4' n4 c4') (.slice A5' n5 c5'))) (by simp [results, Try.results62, go_sem, y0, y1, y2, y3, y4, y5, y6, World.cell?_setCell_other]) rfl ?_
    have h := HB'.out
    refine ⟨m', _, rfl, RdMo.keep (B := w.heap.size + 1) h.rd (by omega) (fun q hq _ => set7_heap _ _ _ _ _ _ _ _ _ _ (by omega)) (by simp), h.sm, ?_, ?_, ?_⟩
    · exact ((((((h.src.setNew hgs _ _).setNew hgs _ _).setNew hgs _ _).setNew hgs _ _).setNew hgs _ _).setNew hgs _ _).setNew hgs _ _
    · exact ((((((h.only.setNew (Nat.le_refl _) _ _).setNew (Nat.le_refl _) _ _).setNew (Nat.le_refl _) _ _).setNew (Nat.le_refl _) _ _).setNew (Nat.le_refl _) _ _).setNew (Nat.le_refl _) _ _).setNew (Nat.le_refl _) _ _
    · intro hk
      obtain ⟨S, e0, e1, e2, e3, e4, e5, e6, e7⟩ := h.ok hk
      refine ⟨_, _, S, h.lt.1, e0.keep (fun j q hq => set7_heap _ _ _ _ _ _ _ _ _ _ (by have := (e0.sp.lt hq).1; have := h.lt.1; omega)), ?_⟩
      rw [e1, e2, e3, e4, e5, e6, e7]

end Go.Proofs.Ytmcalioldphfeaa

/-
  The reference's StepMachine, and DrawStepMachine.
-/
namespace Go.Proofs.Ytmcalioldphfeaa
set_option linter.unusedVariables false
set_option linter.unusedSimpArgs false
open Go.RowKit

def stC (m : Mc) (x : Opr) : Int := if okM m = false then 1 else if okOpW m.wd x = false then 1 else doCode m x
def stR (m : Mc) (x : Opr) : Mc := if stC m x = 0 then doTo m x else nilMc

set_option maxHeartbeats 8000000 in
set_option maxRecDepth 100000 in
theorem stepMachine_any (v : Value) (m : Mc) (x : Opr) (w : World) (hl : RdM w w.heap.size v m) (hf : FitM m) : Calls Try.prog 19 #[v, x.v] w (GivesMs w (stR m x) (stC m x)) := by
  have hdr := hf.dr
  have hl0 := hl
  obtain ⟨f, b, cs, ls, d, rfl, h1, h2, h3, h4, h5, h6⟩ := hl
  obtain ⟨AF, cF, rfl⟩ := RdN.shape h1
  obtain ⟨AG, cG, rfl⟩ := RdN.shape h2
  obtain ⟨AC, cC, rfl⟩ := RdS.lens h3
  obtain ⟨AI, cI, rfl⟩ := RdN.shape h4
  obtain ⟨AD, cD, rfl⟩ := RdI.len h5
  have BW := Lib.hid (show Below w.heap.size w (w.alloc (.cells #[.int .i64 m.wd, .int .i64 m.rk, .slice AF m.fr.length cF, .slice AG m.bk.length cG, .slice AC m.cs.length cC, .slice AI m.ls.length cI, .slice AD m.dr.length cD] 32)) from (Below.refl _ _).alloc (Nat.le_refl _) _)
  have HP := Lib.hid (RdP.box (T := 32) h1 h2 h3 h4 h5 h6)
  have HM := Lib.hid (hl0.up BW.out BW.out.size)
  clear h1 h2 h3 h4 h5 h6 hl0
  have hbA := (((Below.refl (w.alloc (.cells (mcV m.wd m.rk (.slice AF m.fr.length cF) (.slice AG m.bk.length cG) (.slice AC m.cs.length cC) (.slice AI m.ls.length cI) (.slice AD m.dr.length cD)) 32)).heap.size (w.alloc (.cells (mcV m.wd m.rk (.slice AF m.fr.length cF) (.slice AG m.bk.length cG) (.slice AC m.cs.length cC) (.slice AI m.ls.length cI) (.slice AD m.dr.length cD)) 32))).alloc (Nat.le_refl _) (.cells [.int .i64 x.k, .int .i64 x.d, .int .i64 x.fb, .int .i64 x.fa, .int .i64 x.tb, .int .i64 x.ta, .int .i64 x.c, .int .i64 x.r].toArray 47)).alloc (by simp) (.cells zeroM.toArray 32))
  have ho0 := (Bx.new (w.alloc (.cells (mcV m.wd m.rk (.slice AF m.fr.length cF) (.slice AG m.bk.length cG) (.slice AC m.cs.length cC) (.slice AI m.ls.length cI) (.slice AD m.dr.length cD)) 32)) [.int .i64 x.k, .int .i64 x.d, .int .i64 x.fb, .int .i64 x.fa, .int .i64 x.tb, .int .i64 x.ta, .int .i64 x.c, .int .i64 x.r] 47).alloc (.cells zeroM.toArray 32)
  have hr0 := Bx.new ((w.alloc (.cells (mcV m.wd m.rk (.slice AF m.fr.length cF) (.slice AG m.bk.length cG) (.slice AC m.cs.length cC) (.slice AI m.ls.length cI) (.slice AD m.dr.length cD)) 32)).alloc (.cells [.int .i64 x.k, .int .i64 x.d, .int .i64 x.fb, .int .i64 x.fa, .int .i64 x.tb, .int .i64 x.ta, .int .i64 x.c, .int .i64 x.r].toArray 47)) zeroM 32
  simp only [World.size_alloc] at ho0 hr0
  have HO0 := Lib.hid ho0
  have HR0 := Lib.hid hr0
  have hx0 : CellsAt (w.alloc (.cells (mcV m.wd m.rk (.slice AF m.fr.length cF) (.slice AG m.bk.length cG) (.slice AC m.cs.length cC) (.slice AI m.ls.length cI) (.slice AD m.dr.length cD)) 32)) w.heap.size 0 (mcV m.wd m.rk (.slice AF m.fr.length cF) (.slice AG m.bk.length cG) (.slice AC m.cs.length cC) (.slice AI m.ls.length cI) (.slice AD m.dr.length cD)).toList := CellsAt.of_alloc
  have HX0 := Lib.hid (hx0.below hbA (by simp))
  have HP2 := Lib.hid (HP.out.below hbA)
  have HB2 := Lib.hid (BW.out.trans (hbA.mono BW.out.size))
  clear ho0 hr0 hbA hf HP HM BW hx0
  cases hok : okM m
  · have hc := Lib.hid (show stC m x = 1 by unfold stC; rw [if_pos hok])
    have hm := Lib.hid (show stR m x = nilMc by unfold stR; rw [if_neg (by rw [hc.out]; decide)])
    have HK := Lib.hid hok
    clear hok
    go_enter Try.func19, Try.ntmps19
    go_wp2_with fail
    refine (l07Ok_p m _ _ HP2.out hdr).mono ?_
    rintro e w2 ⟨rfl, hb⟩
    rw [HK.out]
    have HB3 := Lib.hid (HB2.out.trans (hb.mono HB2.out.size))
    have HRX := Lib.hid (HR0.out.below hb HR0.out.2.2)
    clear hb
    obtain ⟨r0, r1, r2, r3, r4, r5, r6⟩ := CellsAt.seven HRX.out.1
    have rf := HRX.out.2.1
    have hsz := HB3.out.size
    go_wp2
    refine bodyPost_ret (v := .tuple #[.agg (mcV 0 0 (.slice none 0 0) (.slice none 0 0) (.slice none 0 0) (.slice none 0 0) (.slice none 0 0)), .int .i64 1]) (by simp [results, Try.results19, go_sem, r0, r1, r2, r3, r4, r5, r6, World.cell?_setCell_other]) rfl ?_
    exact ⟨_, by rw [hc.out], by rw [hm.out]; exact OwMs.nil _ _ _ (by simp; exact hsz) (Nat.le_refl _), ((((((HB3.out.setCell (by show w.heap.size ≤ w.heap.size + 1 + 1; omega) _).setCell (by show w.heap.size ≤ w.heap.size + 1 + 1; omega) _).setCell (by show w.heap.size ≤ w.heap.size + 1 + 1; omega) _).setCell (by show w.heap.size ≤ w.heap.size + 1 + 1; omega) _).setCell (by show w.heap.size ≤ w.heap.size + 1 + 1; omega) _).setCell (by show w.heap.size ≤ w.heap.size + 1 + 1; omega) _).setCell (by show w.heap.size ≤ w.heap.size + 1 + 1; omega) _⟩
  · have HK := Lib.hid hok
    have HOK := Lib.hid (okM_iff.1 hok)
    have hokt := hok
    have HC := Lib.hid (fun (h : okOpW m.wd x = false) => show stC m x = 1 by unfold stC; rw [if_neg (by rw [hok]; decide), if_pos h])
    have HD := Lib.hid (fun (h : okOpW m.wd x = true) => show stC m x = doCode m x by unfold stC; rw [if_neg (by rw [hok]; decide), if_neg (by rw [h]; decide)])
    have HBAD := Lib.hid (fun (h : stC m x ≠ 0) => show stR m x = nilMc by unfold stR; rw [if_neg h])
    have HGOOD := Lib.hid (fun (h : stC m x = 0) => show stR m x = doTo m x by unfold stR; rw [if_pos h])
    clear hok
    go_enter Try.func19, Try.ntmps19
    go_wp2_with fail
    generalize ((w.alloc (.cells (mcV m.wd m.rk (.slice AF m.fr.length cF) (.slice AG m.bk.length cG) (.slice AC m.cs.length cC) (.slice AI m.ls.length cI) (.slice AD m.dr.length cD)) 32)).alloc (.cells #[.int .i64 x.k, .int .i64 x.d, .int .i64 x.fb, .int .i64 x.fa, .int .i64 x.tb, .int .i64 x.ta, .int .i64 x.c, .int .i64 x.r] 47)).alloc (.cells zeroM.toArray 32) = W1 at *
    refine (l07Ok_p m _ _ HP2.out hdr).mono ?_
    rintro e w2 ⟨rfl, hb⟩
    rw [HK.out]
    have HB3 := Lib.hid (HB2.out.trans (hb.mono HB2.out.size))
    have HP3 := Lib.hid (HP2.out.below hb)
    have HR3 := Lib.hid (HR0.out.below hb HR0.out.2.2)
    have HO3 := Lib.hid (HO0.out.below hb HO0.out.2.2)
    have HX3 := Lib.hid (HX0.out.below hb (by have := HR0.out.2.2; omega))
    have hlt3 : w.heap.size + 1 + 1 < w2.heap.size := HR3.out.2.2
    clear hb HB2 HP2 HR0 HO0 HX0
    go_wp2_with fail
    refine (l07Op_any x _ _ w2 (show CellsAt w2 (w.heap.size + 1) 0 x.cells from HO3.out.1)).mono ?_
    rintro e w3 ⟨rfl, hb⟩
    have HB4 := Lib.hid (HB3.out.trans (hb.mono HB3.out.size))
    have HP4 := Lib.hid (HP3.out.below hb)
    have HRX := Lib.hid (HR3.out.below hb HR3.out.2.2)
    have HO4 := Lib.hid (HO3.out.below hb HO3.out.2.2)
    have HX4 := Lib.hid (HX3.out.below hb (by omega))
    have hlt4 : w.heap.size + 1 + 1 < w3.heap.size := HRX.out.2.2
    clear hb HB3 HP3 HR3 HO3 HX3
    cases hop : okOp x
    · have hc := Lib.hid (HC.out (show okOpW m.wd x = false by unfold okOpW; rw [hop]; rfl))
      have hm := Lib.hid (HBAD.out (by rw [hc.out]; decide))
      clear hop hokt
      obtain ⟨r0, r1, r2, r3, r4, r5, r6⟩ := CellsAt.seven HRX.out.1
      have rf := HRX.out.2.1
      have hsz := HB4.out.size
      go_wp2
      refine bodyPost_ret (v := .tuple #[.agg (mcV 0 0 (.slice none 0 0) (.slice none 0 0) (.slice none 0 0) (.slice none 0 0) (.slice none 0 0)), .int .i64 1]) (by simp [results, Try.results19, go_sem, r0, r1, r2, r3, r4, r5, r6, World.cell?_setCell_other]) rfl ?_
      exact ⟨_, by rw [hc.out], by rw [hm.out]; exact OwMs.nil _ _ _ (by simp; exact hsz) (Nat.le_refl _), ((((((HB4.out.setCell (by show w.heap.size ≤ w.heap.size + 1 + 1; omega) _).setCell (by show w.heap.size ≤ w.heap.size + 1 + 1; omega) _).setCell (by show w.heap.size ≤ w.heap.size + 1 + 1; omega) _).setCell (by show w.heap.size ≤ w.heap.size + 1 + 1; omega) _).setCell (by show w.heap.size ≤ w.heap.size + 1 + 1; omega) _).setCell (by show w.heap.size ≤ w.heap.size + 1 + 1; omega) _).setCell (by show w.heap.size ≤ w.heap.size + 1 + 1; omega) _⟩
    obtain ⟨y0, y1, y2, y3, y4, y5, y6⟩ := CellsAt.seven HX4.out
    go_wp2_with fail
    refine (l07Fits_any x m.wd _ _ w3 (show CellsAt w3 (w.heap.size + 1) 0 x.cells from HO4.out.1)).mono ?_
    rintro e w4 ⟨rfl, rfl⟩
    clear y0 y1 y2 y3 y4 y5 y6
    cases hfit : (decide (x.fa < m.wd) && decide (x.ta < m.wd))
    · have hc := Lib.hid (HC.out (show okOpW m.wd x = false by unfold okOpW; rw [hop, hfit]; rfl))
      have hm := Lib.hid (HBAD.out (by rw [hc.out]; decide))
      clear hop hfit hokt
      obtain ⟨r0, r1, r2, r3, r4, r5, r6⟩ := CellsAt.seven HRX.out.1
      have rf := HRX.out.2.1
      have hsz := HB4.out.size
      go_wp2
      refine bodyPost_ret (v := .tuple #[.agg (mcV 0 0 (.slice none 0 0) (.slice none 0 0) (.slice none 0 0) (.slice none 0 0) (.slice none 0 0)), .int .i64 1]) (by simp [results, Try.results19, go_sem, r0, r1, r2, r3, r4, r5, r6, World.cell?_setCell_other]) rfl ?_
      exact ⟨_, by rw [hc.out], by rw [hm.out]; exact OwMs.nil _ _ _ (by simp; exact hsz) (Nat.le_refl _), ((((((HB4.out.setCell (by show w.heap.size ≤ w.heap.size + 1 + 1; omega) _).setCell (by show w.heap.size ≤ w.heap.size + 1 + 1; omega) _).setCell (by show w.heap.size ≤ w.heap.size + 1 + 1; omega) _).setCell (by show w.heap.size ≤ w.heap.size + 1 + 1; omega) _).setCell (by show w.heap.size ≤ w.heap.size + 1 + 1; omega) _).setCell (by show w.heap.size ≤ w.heap.size + 1 + 1; omega) _).setCell (by show w.heap.size ≤ w.heap.size + 1 + 1; omega) _⟩
    have HOPW := Lib.hid (show okOpW m.wd x = true by unfold okOpW; rw [hop, hfit]; rfl)
    have HC2 := Lib.hid (HD.out HOPW.out)
    clear hop hfit
    go_wp2_with fail
    refine (l07Own_any m w.heap.size w3 HP4.out hokt).mono ?_
    rintro e w5 ⟨S0, g0, rfl, hM0, hB0⟩
    have hz3 : w3.heap.size ≤ w5.heap.size := hB0.size
    obtain ⟨S1, hM1, hS1, -⟩ := hM0.rebox hz3
    obtain ⟨A1, c1, A2, c2, A3, c3, A4, c4, A5, c5, q1, q2, q3, q4, q5⟩ := hM0.slices
    rw [q1, q2, q3, q4, q5] at hM1
    rw [q1, q2, q3, q4, q5]
    have M1 := Lib.hid hM1
    have hB0' := hB0.alloc hz3 (.cells (mcV m.wd m.rk (.slice A1 m.fr.length c1) (.slice A2 m.bk.length c2) (.slice A3 m.cs.length c3) (.slice A4 m.ls.length c4) (.slice A5 m.dr.length c5)) 32)
    have B0 := Lib.hid hB0'
    have HO5 := HO4.out.below hB0' (by omega)
    have HQ := Lib.hid (l07Do_any hM1 (show w3.heap.size ≤ _ by simp; omega) x (w.heap.size + 1) 0 HO5.1 (hM1.not_blk (by omega)) hokt HOPW.out)
    clear hM1 hM0 hB0 q1 q2 q3 q4 q5 hS1 hokt hdr hB0' HO5
    go_wp2_with fail
    refine (HQ.out).mono ?_
    rintro e w6 ⟨rfl, S2, hv2, hm2⟩
    have hb4 := hv2.below M1.out.sp (show w3.heap.size ≤ _ by simp; omega)
    have HB5 := Lib.hid (HB4.out.trans ((B0.out.trans hb4).mono HB4.out.size))
    have HRY := Lib.hid ((HRX.out.below (B0.out.trans hb4) hlt4))
    obtain ⟨r0, r1, r2, r3, r4, r5, r6⟩ := CellsAt.seven HRY.out.1
    have rf := HRY.out.2.1
    have hsz := HB5.out.size
    clear hv2 hb4 HQ B0 M1
    by_cases h0 : doCode m x = 0
    · have hM4 := hm2 h0
      have HE := Lib.hid (HGOOD.out (HC2.out.trans h0))
      have HC3 := Lib.hid (HC2.out.trans h0)
      rw [h0]
      generalize doTo m x = m' at *
      obtain ⟨A1', c1', A2', c2', A3', c3', A4', c4', A5', c5', q1, q2, q3, q4, q5⟩ := hM4.slices
      obtain ⟨x0, x1, x2, x3, x4, x5, x6⟩ := hM4.cells.seven
      rw [q1] at x2
      rw [q2] at x3
      rw [q3] at x4
      rw [q4] at x5
      rw [q5] at x6
      have hz4 := hM4.size
      have HOW := OwMs.of_mst hM4 (by omega)
      rw [q1, q2, q3, q4, q5] at HOW
      have HOW4 := Lib.hid HOW
      clear hM4 hm2 q1 q2 q3 q4 q5 HOW h0 hz4
      go_wp2
      refine bodyPost_ret (v := .tuple #[.agg (mcV m'.wd m'.rk (.slice A1' m'.fr.length c1') (.slice A2' m'.bk.length c2') (.slice A3' m'.cs.length c3') (.slice A4' m'.ls.length c4') (.slice A5' m'.dr.length c5')), .int .i64 0]) (by simp [results, Try.results19, go_sem, r0, r1, r2, r3, r4, r5, r6, World.cell?_setCell_other]) rfl ?_
      refine ⟨_, by rw [HC3.out], ?_, ((((((HB5.out.setCell (by show w.heap.size ≤ w.heap.size + 1 + 1; omega) _).setCell (by show w.heap.size ≤ w.heap.size + 1 + 1; omega) _).setCell (by show w.heap.size ≤ w.heap.size + 1 + 1; omega) _).setCell (by show w.heap.size ≤ w.heap.size + 1 + 1; omega) _).setCell (by show w.heap.size ≤ w.heap.size + 1 + 1; omega) _).setCell (by show w.heap.size ≤ w.heap.size + 1 + 1; omega) _).setCell (by show w.heap.size ≤ w.heap.size + 1 + 1; omega) _⟩
      rw [HE.out]
      exact (HOW4.out.only (only_set7 _ _ _ _ _ _ _ _ _) (.inr hlt4) (Nat.le_refl _)).wide (by omega) (by simp) (Nat.le_refl _)
    · have HE := Lib.hid (HBAD.out (by rw [HC2.out]; exact h0))
      have h0' : (doCode m x != 0) = true := by simpa using h0
      have HC3 := Lib.hid HC2.out
      clear hm2 h0
      generalize doCode m x = cc at *
      go_wp2
      refine bodyPost_ret (v := .tuple #[.agg (mcV 0 0 (.slice none 0 0) (.slice none 0 0) (.slice none 0 0) (.slice none 0 0) (.slice none 0 0)), .int .i64 cc]) (by simp [results, Try.results19, go_sem, r0, r1, r2, r3, r4, r5, r6, World.cell?_setCell_other]) rfl ?_
      exact ⟨_, by rw [HC3.out], by rw [HE.out]; exact OwMs.nil _ _ _ (by simp; exact hsz) (Nat.le_refl _), ((((((HB5.out.setCell (by show w.heap.size ≤ w.heap.size + 1 + 1; omega) _).setCell (by show w.heap.size ≤ w.heap.size + 1 + 1; omega) _).setCell (by show w.heap.size ≤ w.heap.size + 1 + 1; omega) _).setCell (by show w.heap.size ≤ w.heap.size + 1 + 1; omega) _).setCell (by show w.heap.size ≤ w.heap.size + 1 + 1; omega) _).setCell (by show w.heap.size ≤ w.heap.size + 1 + 1; omega) _).setCell (by show w.heap.size ≤ w.heap.size + 1 + 1; omega) _⟩

theorem RdB.up2 {w w' : World} {v : Value} (h : RdB w w.heap.size v) (hb : Below w.heap.size w w') : RdB w' w'.heap.size v := by
  obtain ⟨A, n, c, hv, hn, hc⟩ := h.keep (fun b hb' => hb.block b hb')
  refine ⟨A, n, c, hv, hn, fun k hk => ?_⟩
  obtain ⟨b, off, x, h1, h2, h3⟩ := hc k hk
  exact ⟨b, off, x, h1, Nat.lt_of_lt_of_le h2 hb.size, h3⟩
theorem below_s7 {B : Nat} {a W : World} (h : Below B a W) {b : Nat} (hb : B ≤ b) (u0 u1 u2 u3 u4 u5 u6 : Value) : Below B a (((((((W.setCell ⟨b, 0, none⟩ u0).setCell ⟨b, 1, none⟩ u1).setCell ⟨b, 2, none⟩ u2).setCell ⟨b, 3, none⟩ u3).setCell ⟨b, 4, none⟩ u4).setCell ⟨b, 5, none⟩ u5).setCell ⟨b, 6, none⟩ u6) :=
  ((((((h.setCell hb _).setCell hb _).setCell hb _).setCell hb _).setCell hb _).setCell hb _).setCell hb _
theorem below_s8 {B : Nat} {a W : World} (h : Below B a W) {b : Nat} (hb : B ≤ b) (u0 u1 u2 u3 u4 u5 u6 u7 : Value) : Below B a (set8 W b u0 u1 u2 u3 u4 u5 u6 u7) :=
  (((((((h.setCell hb _).setCell hb _).setCell hb _).setCell hb _).setCell hb _).setCell hb _).setCell hb _).setCell hb _
theorem set8_hp (W : World) (b : Nat) (u0 u1 u2 u3 u4 u5 u6 u7 : Value) (q : Nat) (hq : q ≠ b) : (set8 W b u0 u1 u2 u3 u4 u5 u6 u7).heap[q]? = W.heap[q]? := by
  have s : ∀ (X : World) (i : Nat) (u : Value), (X.setCell ⟨b, i, none⟩ u).heap[q]? = X.heap[q]? := fun X i u => Below.heap_setCell _ _ _ _ (by show q ≠ b; exact hq)
  rw [set8, s, s, s, s, s, s, s, s]
/-- A machine and an operation that were drawn. -/
def DrawnSt (w : World) (e : Ending) (w' : World) : Prop := ∃ (m : Mc) (v : Value) (x : Opr), e = .returned (.tuple #[v, x.v]) ∧ RdMo w' w.heap.size v m ∧ SmM m ∧ Below w.heap.size w w'
set_option maxHeartbeats 8000000 in
set_option maxRecDepth 100000 in
theorem drawStep_any (w : World) (v0 : Value) (h : RdB w w.heap.size v0) : Calls Try.prog 18 #[v0] w (DrawnSt w) := by
  have hbA := ((Below.refl w.heap.size w).alloc (Nat.le_refl _) (.cells zeroM.toArray 32)).alloc (by simp) (.cells zOp.toArray 47)
  have HBA := Lib.hid (h.up2 hbA)
  have HR := Lib.hid ((Bx.new w zeroM 32).alloc (.cells zOp.toArray 47))
  have ho := Bx.new (w.alloc (.cells zeroM.toArray 32)) zOp 47
  rw [World.size_alloc] at ho
  have HO := Lib.hid ho
  have HA := Lib.hid hbA
  have hzA : ((w.alloc (.cells zeroM.toArray 32)).alloc (.cells zOp.toArray 47)).heap.size = w.heap.size + 2 := by simp
  clear h hbA ho
  go_enter Try.func18, Try.ntmps18
  go_wp2_with fail
  refine (l00From_any _ v0 HBA.out).mono ?_
  rintro e w1 ⟨rfl, hs1, hb1, hz1⟩
  have B1 := Lib.hid (HA.out.trans (hb1.mono HA.out.size))
  have R1 := Lib.hid (HR.out.below hb1 HR.out.2.2)
  have O1 := Lib.hid (HO.out.below hb1 HO.out.2.2)
  have S1 := Lib.hid hs1
  rw [show ((w.alloc (.cells #[.int .i64 0, .int .i64 0, .slice none 0 0, .slice none 0 0, .slice none 0 0, .slice none 0 0, .slice none 0 0] 32)).alloc (.cells #[.int .i64 0, .int .i64 0, .int .i64 0, .int .i64 0, .int .i64 0, .int .i64 0, .int .i64 0, .int .i64 0] 47)).heap.size = w.heap.size + 2 from hzA] at S1 hz1
  go_wp2_with fail
  refine (l07Bent2_any (gs := w.heap.size + 2) (K := 0) S1.out (by omega)).mono ?_
  rintro e w2 ⟨m, v, rfl, hrd, hsm, hs2, ho2, hok⟩
  obtain ⟨A1, c1, A2, c2, A3, c3, A4, c4, A5, c5, rfl⟩ := RdM.shape hrd.rd
  have hz2 : w1.heap.size ≤ w2.heap.size := ho2.size
  have hP : RdP (w2.alloc (.cells (mcV m.wd m.rk (.slice A1 m.fr.length c1) (.slice A2 m.bk.length c2) (.slice A3 m.cs.length c3) (.slice A4 m.ls.length c4) (.slice A5 m.dr.length c5)) 32)) w2.heap.size m := by
    obtain ⟨f, b, cs, ls, d, e, h1, h2, h3, h4, h5, h6⟩ := hrd.rd
    injection e with e
    simp only [Array.mk.injEq, List.cons.injEq] at e
    obtain ⟨-, -, rfl, rfl, rfl, rfl, rfl, -⟩ := e
    exact RdP.box h1 h2 h3 h4 h5 h6
  have hM : okM m = true → ∃ B S, MSt (w2.alloc (.cells (mcV m.wd m.rk (.slice A1 m.fr.length c1) (.slice A2 m.bk.length c2) (.slice A3 m.cs.length c3) (.slice A4 m.ls.length c4) (.slice A5 m.dr.length c5)) 32)) B w2.heap.size m S ∧ w.heap.size + 2 < B := fun hk => by
    obtain ⟨B, g, S, hB, hS, e⟩ := hok hk
    injection e with e
    obtain ⟨S', hS', -⟩ := hS.rebox (by have := hS.size; omega)
    rw [← e] at hS'
    exact ⟨B, S', hS', by omega⟩
  have hbA := (Below.refl w2.heap.size w2).alloc (Nat.le_refl _) (.cells (mcV m.wd m.rk (.slice A1 m.fr.length c1) (.slice A2 m.bk.length c2) (.slice A3 m.cs.length c3) (.slice A4 m.ls.length c4) (.slice A5 m.dr.length c5)) 32)
  have hXA := Bx.new w2 [.int .i64 m.wd, .int .i64 m.rk, .slice A1 m.fr.length c1, .slice A2 m.bk.length c2, .slice A3 m.cs.length c3, .slice A4 m.ls.length c4, .slice A5 m.dr.length c5] 32
  have hoA := ho2.trans (Only.of_below (lo := w.heap.size + 2) (hi := w.heap.size + 2 + 1) hbA)
  have VA := Lib.hid (hrd.below (Nat.le_refl _) hbA)
  have SA := Lib.hid (hs2.alloc (.cells (mcV m.wd m.rk (.slice A1 m.fr.length c1) (.slice A2 m.bk.length c2) (.slice A3 m.cs.length c3) (.slice A4 m.ls.length c4) (.slice A5 m.dr.length c5)) 32))
  have RA := Lib.hid ((R1.out.only ho2 (by omega)).below hbA (by have := R1.out.2.2; omega))
  have OA := Lib.hid ((O1.out.only ho2 (by omega)).below hbA (by have := O1.out.2.2; omega))
  have XA := Lib.hid hXA
  have PA := Lib.hid hP
  have MA := Lib.hid hM
  have HOA := Lib.hid hoA
  have HSM := Lib.hid hsm
  have hgm : w.heap.size + 2 < w2.heap.size := by omega
  clear hrd hsm hs2 ho2 hok hP hM hbA hXA hoA
  go_upto_region 3 with fail
  generalize w2.alloc (.cells (mcV m.wd m.rk (.slice A1 m.fr.length c1) (.slice A2 m.bk.length c2) (.slice A3 m.cs.length c3) (.slice A4 m.ls.length c4) (.slice A5 m.dr.length c5)) 32) = wA at *
  obtain ⟨gm, hgme⟩ : ∃ gm, gm = w2.heap.size := ⟨_, rfl⟩
  rw [← hgme] at XA PA MA hgm ⊢
  clear hgme
  have HQ := Lib.hid (l07BentOp_any (w := wA.drew) (gm := gm) (gs := w.heap.size + 2) (m := m) (K := 328) (by exact SA.out) (by exact PA.out) (by have := HSM.out.fit.dr; exact this) (fun hk => by obtain ⟨B, S, h1, h2⟩ := MA.out hk; exact ⟨B, S, h1.drew, h2⟩) (by omega))
  obtain ⟨x0, x1, x2, x3, x4, x5, x6⟩ := CellsAt.seven XA.out.1
  have hf0 := far_cell (show w.heap.size ≠ gm by omega)
  have hf1 := far_cell (show w.heap.size + 1 ≠ gm by omega)
  go_region_held3 (fun w' => w'.cell? ⟨gm, 0, none⟩ = some (.int .i64 m.wd) ∧ w'.cell? ⟨gm, 1, none⟩ = some (.int .i64 m.rk) ∧ w'.cell? ⟨gm, 2, none⟩ = some (.slice A1 m.fr.length c1) ∧ w'.cell? ⟨gm, 3, none⟩ = some (.slice A2 m.bk.length c2) ∧ w'.cell? ⟨gm, 4, none⟩ = some (.slice A3 m.cs.length c3) ∧ w'.cell? ⟨gm, 5, none⟩ = some (.slice A4 m.ls.length c4) ∧ w'.cell? ⟨gm, 6, none⟩ = some (.slice A5 m.dr.length c5))
    (first | with_reducible exact ⟨x0, x1, x2, x3, x4, x5, x6⟩ | with_reducible exact ⟨y0, y1, y2, y3, y4, y5, y6⟩ | (simp only [drew_cell, hf0, hf1]; with_reducible exact ⟨y0, y1, y2, y3, y4, y5, y6⟩) | go_keep)
    (first
      | (go_at_call 63; refine (HQ.out).mono ?_; rintro e w3 ⟨x, rfl, hs3, ho3⟩; have hXB := (show Bx wA.drew gm _ from XA.out).only ho3 (by omega); obtain ⟨y0, y1, y2, y3, y4, y5, y6⟩ := CellsAt.seven hXB.1; have hRB := (show Bx wA.drew w.heap.size _ from RA.out).only ho3 (by omega); have hOB := (show Bx wA.drew (w.heap.size + 1) _ from OA.out).only ho3 (by omega); obtain ⟨r0, r1, r2, r3, r4, r5, r6⟩ := CellsAt.seven hRB.1; have rf := hRB.2.1; obtain ⟨q0, q1, q2, q3, q4, q5, q6, q7⟩ := hOB.eight; have qf := hOB.2.1))
  all_goals
    have V3 := Lib.hid ((show RdMo wA.drew w1.heap.size _ m from VA.out).only (Nat.le_refl _) ho3 (by omega))
    have HB3 := Lib.hid (B1.out.trans (((only_drew HOA.out).trans ho3).below (B := w.heap.size) (by omega) (by omega)))
    clear hs3 ho3 hXB hRB hOB HQ x0 x1 x2 x3 x4 x5 x6 y0 y1 y2 y3 y4 y5 y6 hf0 hf1
    go_wp2
    refine bodyPost_ret (v := .tuple #[.agg (mcV m.wd m.rk (.slice A1 m.fr.length c1) (.slice A2 m.bk.length c2) (.slice A3 m.cs.length c3) (.slice A4 m.ls.length c4) (.slice A5 m.dr.length c5)), x.v]) (by simp [results, Try.results18, go_sem, r0, r1, r2, r3, r4, r5, r6, q0, q1, q2, q3, q4, q5, q6, q7, World.cell?_setCell_other, Opr.v, drew_cell]) rfl ?_
    refine ⟨m, _, x, rfl, ?_, HSM.out, below_s8 (below_s7 HB3.out (Nat.le_refl _) _ _ _ _ _ _ _) (Nat.le_succ _) _ _ _ _ _ _ _ _⟩
    exact V3.out.keep (by omega) (fun q hq _ => (set8_hp _ _ _ _ _ _ _ _ _ _ _ (by omega)).trans (set7_heap _ _ _ _ _ _ _ _ _ _ (by omega))) (by simp)

end Go.Proofs.Ytmcalioldphfeaa
