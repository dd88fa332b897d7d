/-
  Texts joined: St2, St3.
-/
import Derived.Test.YtolcgopfbbmjgaaOp
import Derived.Test.YtolcgopfbbmjgaaPk1
import Derived.Test.YtolcgopfbbmjgaaPk8
import Derived.Maps.Own
import Derived.Test.YtolcgopfbbmjgaaOpS
import Derived.Test.YtolcgopfbbmjgaaPk11
import Derived.Carry
import Derived.Deep.DeepBigQuietO
/-
  A set of needles kept in a map: its words; the program's question whether operations name separate needles.
-/
namespace Go.Proofs.Ytolcgopfbbmjgaa
set_option linter.unusedVariables false
set_option linter.unusedSimpArgs false
open Go.RowKit Go.MapKept

abbrev ndV (n : Int × Int) : Value := .agg #[.int .i64 n.1, .int .i64 n.2]
/-- Block b is a map whose keys are the needles of S. -/
def NMap (w : World) (b : Nat) (S : Int × Int → Prop) : Prop :=
  ∃ (es : Array MapEntry) (clock : Nat) (ks : List (Int × Int)), w.heap[b]? = some (.map es clock) ∧ es.toList.map (·.key) = ks.map ndV ∧ (∀ e ∈ es.toList, e.val = .bool true) ∧ ∀ n, n ∈ ks ↔ S n
theorem ndV_inj {a b : Int × Int} (h : ndV a = ndV b) : a = b := by
  obtain ⟨a1, a2⟩ := a
  obtain ⟨b1, b2⟩ := b
  simp only [Value.agg.injEq] at h
  have h1 := congrArg Array.toList h
  simp at h1
  rw [h1.1, h1.2]
theorem check_nd (em : Bool) (n : Int × Int) (w : World) : (Instr.checkKey em 10000 53 (ndV n)).run Try.prog w = .ok () w := by
  kernel_rfl
theorem equal_nd (a b : Int × Int) (w : World) : (Op.equal 53 (ndV a) (ndV b)).run Try.prog w = .ok (decide (a = b)) w := by
  have h := eqlIn_nd 9998 a.1 a.2 b.1 b.2 w
  have e : decide (a = b) = (decide (a.1 = b.1) && decide (a.2 = b.2)) := by
    rw [Bool.eq_iff_iff]; simp [Prod.ext_iff]
  rw [e]
  exact h
theorem ask_nd (n : Int × Int) (w : World) : ∀ (es : List MapEntry) (ks : List (Int × Int)) (i : Nat), es.map (·.key) = ks.map ndV →
    ((Instr.findAsking 53 (ndV n) es i).run Try.prog w = .ok none w ∧ n ∉ ks) ∨ ∃ j e, (Instr.findAsking 53 (ndV n) es i).run Try.prog w = .ok (some (i + j, e.val)) w ∧ es[j]? = some e ∧ e.key = ndV n ∧ n ∈ ks
  | [], ks, i, h => by
    have : ks = [] := by simpa using h.symm
    subst this
    exact .inl ⟨by simp [Instr.findAsking], by simp⟩
  | e :: es, ks, i, h => by
    cases ks with
    | nil => simp at h
    | cons k ks =>
      simp only [List.map_cons, List.cons.injEq] at h
      obtain ⟨h1, h2⟩ := h
      have hq := equal_nd n k w
      by_cases hk : n = k
      · subst hk
        refine .inr ⟨0, e, ?_, rfl, h1, by simp⟩
        simp only [decide_true] at hq
        simp [Instr.findAsking, h1, hq, Result.andThen]
      · rw [decide_eq_false hk] at hq
        rcases ask_nd n w es ks (i + 1) h2 with ⟨h3, h4⟩ | ⟨j, e', h3, h4, h5, h6⟩
        · exact .inl ⟨by simp [Instr.findAsking, h1, hq, Result.andThen, h3], by simp [hk, h4]⟩
        · exact .inr ⟨j + 1, e', by simp [Instr.findAsking, h1, hq, Result.andThen, h3, Nat.add_assoc, Nat.add_comm 1 j], by simpa using h4, h5, by simp [h6]⟩
theorem find_nd (n : Int × Int) (w : World) (es : List MapEntry) (ks : List (Int × Int)) (h : es.map (·.key) = ks.map ndV) :
    ((Instr.findKey 53 (ndV n) es).run Try.prog w = .ok none w ∧ n ∉ ks) ∨ ∃ j e, (Instr.findKey 53 (ndV n) es).run Try.prog w = .ok (some (j, e.val)) w ∧ es[j]? = some e ∧ e.key = ndV n ∧ n ∈ ks := by
  cases es with
  | nil =>
    have : ks = [] := by simpa using h.symm
    subst this
    exact .inl ⟨by simp [Instr.findKey, run_underlying Try.underlying53, Result.andThen, Instr.findNow], by simp⟩
  | cons e es =>
    have e1 : (Instr.findKey 53 (ndV n) (e :: es)).run Try.prog w = (Instr.findAsking 53 (ndV n) (e :: es) 0).run Try.prog w := by
      simp [Instr.findKey, run_underlying Try.underlying53, Result.andThen, Instr.findNow, Instr.sameNow]
    rw [e1]
    simpa using ask_nd n w (e :: es) ks 0 h
theorem zero_bool (w : World) : (zeroValue 4).run Try.prog w = .ok (.bool false) w := by kernel_rfl
theorem NMap.look {w : World} {b : Nat} {S : Int × Int → Prop} (h : NMap w b S) (n : Int × Int) (v : Bool) (hv : v = true ↔ S n) :
    (Instr.lookup 100 (.map (some b)) (ndV n) false).run Try.prog w = .ok (.bool v) w := by
  obtain ⟨es, clock, ks, hb, hk, hval, hS⟩ := h
  rcases find_nd n w es.toList ks hk with ⟨h1, h2⟩ | ⟨j, e, h1, h2, h3, h4⟩
  · have : v = false := by
      cases v with
      | false => rfl
      | true => exact absurd ((hS n).2 (hv.1 rfl)) h2
    subst this
    simp [Instr.lookup, run_underlying Try.underlying100, MapKept.run_getObj_map hb, check_nd _ n w, h1, zero_bool, Result.andThen]
  · have : v = true := hv.2 ((hS n).1 h4)
    subst this
    have hev := hval e (List.mem_of_getElem? h2)
    simp [Instr.lookup, run_underlying Try.underlying100, MapKept.run_getObj_map hb, check_nd _ n w, h1, hev, Result.andThen]
theorem stays_nd (n : Int × Int) (w : World) : (Instr.keyThatStays (ndV n) (ndV n)).run Try.prog w = .ok (ndV n) w := by
  have : Instr.sameBits 10000 (ndV n) (ndV n) = true := by
    simp [Instr.sameBits]
  simp [Instr.keyThatStays, this]
theorem NMap.put {w : World} {b : Nat} {S : Int × Int → Prop} (h : NMap w b S) (n : Int × Int) :
    ∃ w', (Instr.mapUpdate 100 (.map (some b)) (ndV n) (.bool true)).run Try.prog w = .ok () w' ∧ NMap w' b (fun k => S k ∨ k = n) ∧ w.grownBy w' (some b) := by
  obtain ⟨es, clock, ks, hb, hk, hval, hS⟩ := h
  have hgr : ∀ o, w.grownBy { w with heap := w.heap.setIfInBounds b o } (some b) := fun o => ⟨rfl, rfl, rfl, by simp, fun i _ hi => (heap_set hb).2 i (fun e => hi (by rw [e]))⟩
  rcases find_nd n w es.toList ks hk with ⟨h1, h2⟩ | ⟨j, e, h1, h2, h3, h4⟩
  · refine ⟨_, by
      simp only [Instr.mapUpdate, Sem.run_bind, run_underlying Try.underlying100, Result.andThen_ok, MapKept.run_getObj_map hb, check_nd false n w, h1]
      exact MapKept.run_setObj_map _ hb, ⟨_, _, ks ++ [n], (heap_set hb).1, ?_, ?_, ?_⟩, hgr _⟩
    · simp [hk]
    · intro e he
      simp only [Array.toList_push, List.mem_append, List.mem_singleton] at he
      rcases he with he | rfl
      · exact hval e he
      · rfl
    · intro k
      simp [hS]
  · refine ⟨_, by
      have hj : es[j]? = some e := by simpa using h2
      simp only [Instr.mapUpdate, Sem.run_bind, run_underlying Try.underlying100, Result.andThen_ok, MapKept.run_getObj_map hb, check_nd false n w, h1, hj, Option.map_some, Option.getD_some, h3, stays_nd n w]
      exact MapKept.run_setObj_map _ hb, ⟨_, _, ks, (heap_set hb).1, ?_, ?_, ?_⟩, hgr _⟩
    · rw [Array.toList_modify, ChangeMaps.modify_eq_set _ _ _ _ h2, List.map_set, ← hk]
      apply List.ext_getElem?
      intro i
      rw [List.getElem?_set]
      split
      · rename_i hij
        subst hij
        split
        · rw [List.getElem?_map, h2, Option.map_some, h3]
        · rename_i hlt; simp at hlt; have := (List.getElem?_eq_some_iff.1 h2).1; simp at this; omega
      · rfl
    · intro x hx
      rw [Array.toList_modify, ChangeMaps.modify_eq_set _ _ _ _ h2] at hx
      rcases List.mem_or_eq_of_mem_set hx with hx | rfl
      · exact hval x hx
      · rfl
    · intro k
      rw [hS]
      constructor
      · exact .inl
      · rintro (h | rfl)
        · exact h
        · exact (hS _).1 h4
theorem NMap.made (w : World) : NMap (w.alloc (.map #[] 0)) w.heap.size (fun _ => False) := ⟨#[], 0, [], heap_alloc_new w _, rfl, by simp, by simp⟩
theorem NMap.keep {w w' : World} {b : Nat} {S : Int × Int → Prop} (h : NMap w b S) (hb : w'.heap[b]? = w.heap[b]?) : NMap w' b S := by
  obtain ⟨es, clock, ks, h1, h2⟩ := h
  exact ⟨es, clock, ks, hb.trans h1, h2⟩
theorem NMap.lt {w : World} {b : Nat} {S : Int × Int → Prop} (h : NMap w b S) : b < w.heap.size := by
  obtain ⟨es, clock, ks, h1, h2⟩ := h
  exact (Array.getElem?_eq_some_iff.1 h1).1

end Go.Proofs.Ytolcgopfbbmjgaa

/-
  Whether operations name separate needles: of the program and of the reference.
-/
namespace Go.Proofs.Ytolcgopfbbmjgaa
set_option linter.unusedVariables false
set_option linter.unusedSimpArgs false
open Go.RowKit Go.MapKept

def SeenN (l : List Opr) (k : Nat) (n : Int × Int) : Prop := ∃ o ∈ l.take k, n = o.f ∨ n = o.t
section
variable {l : List Opr} {k : Nat} {x : Opr}
theorem seen_zero (n : Int × Int) : SeenN l 0 n ↔ False := by simp [SeenN]
theorem seen_next (hx : l[k]? = some x) (n : Int × Int) : SeenN l (k + 1) n ↔ (SeenN l k n ∨ n = x.f) ∨ n = x.t := by
  unfold SeenN
  rw [List.take_add_one, hx]
  simp only [Option.toList_some, List.mem_append, List.mem_singleton]
  constructor
  · rintro ⟨o, h | rfl, h2⟩
    · exact .inl (.inl ⟨o, h, h2⟩)
    · rcases h2 with h2 | h2
      · exact .inl (.inr h2)
      · exact .inr h2
  · rintro ((⟨o, h, h2⟩ | h) | h)
    · exact ⟨o, .inl h, h2⟩
    · exact ⟨x, .inr rfl, .inl h⟩
    · exact ⟨x, .inr rfl, .inr h⟩
theorem seen_bad (hx : l[k]? = some x) (h : SeenN l k x.f ∨ SeenN l k x.t) : ¬ l.Pairwise SepO := by
  intro hp
  have h2 : ∀ o ∈ l.take k, SepO o x := fun o ho => by
    obtain ⟨i, hi, e⟩ := List.getElem_of_mem ho
    have hik : i < k := by rw [List.length_take] at hi; omega
    obtain ⟨hk, hxk⟩ := List.getElem?_eq_some_iff.1 hx
    have := List.pairwise_iff_getElem.1 hp i k (by omega) hk hik
    rw [hxk] at this
    rw [List.getElem_take] at e
    rwa [e] at this
  rcases h with ⟨o, ho, e⟩ | ⟨o, ho, e⟩
  · obtain ⟨h3, h4, h5, h6⟩ := h2 o ho
    rcases e with e | e
    · exact h3 e.symm
    · exact h5 e.symm
  · obtain ⟨h3, h4, h5, h6⟩ := h2 o ho
    rcases e with e | e
    · exact h4 e.symm
    · exact h6 e.symm
theorem seen_good (hx : l[k]? = some x) (hp : (l.take k).Pairwise SepO) (h1 : ¬ SeenN l k x.f) (h2 : ¬ SeenN l k x.t) : (l.take (k + 1)).Pairwise SepO := by
  rw [List.take_add_one, hx]
  refine List.pairwise_append.2 ⟨hp, List.pairwise_singleton _ _, fun a ha b hb => ?_⟩
  simp only [Option.toList_some, List.mem_singleton] at hb
  subst hb
  exact ⟨fun e => h1 ⟨a, ha, .inl e.symm⟩, fun e => h2 ⟨a, ha, .inl e.symm⟩, fun e => h1 ⟨a, ha, .inr e.symm⟩, fun e => h2 ⟨a, ha, .inr e.symm⟩⟩
end

set_option maxHeartbeats 4000000 in
set_option maxRecDepth 100000 in
theorem areSep_any (v : Value) (l : List Opr) (w : World) (hl : RdO w w.heap.size v l) :
    Calls Try.prog 39 #[v] w fun e w' => e = .returned (.bool (decide (l.Pairwise SepO))) ∧ Below w.heap.size w w' := by
  obtain ⟨A, N, c, rfl, hln, hl', gl⟩ := hl
  have GL := Lib.hid gl
  have HLN := Lib.hid hl'.out
  have hmm := @run_makeMap Try.prog
  clear gl hl'
  generalize hR : decide (l.Pairwise SepO) = R
  have HR := Lib.hid hR
  clear hR
  go_enter Try.func39, Try.ntmps39
  go_wp2
  clear hmm
  go_loopw [9] (fun i wr => ∃ k : Nat, k ≤ N ∧ i = .int .i64 k ∧ Hid (NMap wr w.heap.size (SeenN l k)) ∧ Hid ((l.take k).Pairwise SepO) ∧ Hid (Below w.heap.size w wr)) (fun i _ => N - (intOf i).toNat)
  case atStart => exact ⟨0, Nat.zero_le _, rfl, by
    have h := NMap.made w
    rw [show (fun _ => False) = SeenN l 0 from funext fun n => propext (seen_zero n).symm] at h
    exact h, by unfold Hid; simp, (Below.refl _ _).alloc (Nat.le_refl _) _⟩
  case round =>
    rename_i wr
    obtain ⟨k, hk, rfl, HM, HP, HB⟩ := hrel
    have hsz := HB.out.size
    by_cases hlt : k < N
    · obtain ⟨b, off, x, rfl, hbb, hlk, hc⟩ := GL.out k hlt
      have hcw := hc.below HB.out hbb
      obtain ⟨c0, c1, c2, c3, c4, c5, c6, c7⟩ := hcw.eight
      have HLK := Lib.hid hlk
      have hbox := box_at wr 55 x.cells
      have hmW : NMap (wr.alloc (.cells #[.int .i64 x.k, .int .i64 x.d, .int .i64 x.fb, .int .i64 x.fa, .int .i64 x.tb, .int .i64 x.ta, .int .i64 x.c, .int .i64 x.r] 55)) w.heap.size (SeenN l k) := HM.out.keep ((alloc_below _ _).block _ HM.out.lt)
      have HBA := Lib.hid (show Below w.heap.size w (wr.alloc (.cells #[.int .i64 x.k, .int .i64 x.d, .int .i64 x.fb, .int .i64 x.fa, .int .i64 x.tb, .int .i64 x.ta, .int .i64 x.c, .int .i64 x.r] 55)) from HB.out.alloc hsz _)
      have hmlt := HM.out.lt
      clear hc hcw hlk
      by_cases hs1 : SeenN l k x.f
      · have HF := Lib.hid (show R = false by rw [← HR.out]; exact decide_eq_false (seen_bad HLK.out (.inl hs1)))
        have hk1 := hmW.look x.f true (by simpa using hs1)
        clear hs1 hmW hbox
        go_wp2
        go_ret
        exact ⟨ret_bool HF.out.symm, HBA.out⟩
      · have hk1 := hmW.look x.f false (by simpa using hs1)
        by_cases hs2 : SeenN l k x.t
        · have HF := Lib.hid (show R = false by rw [← HR.out]; exact decide_eq_false (seen_bad HLK.out (.inr hs2)))
          have hk2 := hmW.look x.t true (by simpa using hs2)
          clear hs1 hs2 hmW hbox
          go_wp2
          go_ret
          exact ⟨ret_bool HF.out.symm, HBA.out⟩
        · have hk2 := hmW.look x.t false (by simpa using hs2)
          have HPN := Lib.hid (seen_good HLK.out HP.out hs1 hs2)
          obtain ⟨W1, hu1, hm1, hg1⟩ := hmW.put x.f
          obtain ⟨W2, hu2, hm2, hg2⟩ := hm1.put x.t
          have hb1 : CellsAt W1 wr.heap.size 0 x.cells := hbox.keep fun o => by
            have := hg1.block wr.heap.size (by simp) (fun e => by injection e with e; omega)
            simp only [World.cell?, this]
          obtain ⟨-, -, -, -, d4, d5, -, -⟩ := hb1.eight
          have HMN := Lib.hid (show NMap W2 w.heap.size (SeenN l (k + 1)) by
            rwa [show SeenN l (k + 1) = fun n => (SeenN l k n ∨ n = x.f) ∨ n = x.t from funext fun n => propext (seen_next HLK.out n)])
          have HB2 := Lib.hid (show Below w.heap.size w W2 from (HBA.out.grown hg1 (by simp; omega) (fun k hk => by injection hk with hk; omega)).grown hg2 (by have := hg1.size; simp at this; omega) (fun k hk => by injection hk with hk; omega))
          clear hs1 hs2 hmW hbox hm1 hm2 hg1 hg2 hb1
          simp only [Nat.zero_add] at d4 d5
          go_wp2
          exact ⟨⟨k + 1, by omega, by go_num, HMN.out, HPN.out, HB2.out⟩, by simp [intOf]; omega⟩
    · have hk' : k = N := by omega
      subst hk'
      have HD := Lib.hid (show R = true from by
        rw [← HR.out]
        refine decide_eq_true ?_
        have := HP.out
        rwa [List.take_of_length_le (by have := HLN.out; omega)] at this)
      go_wp2
      go_ret
      exact ⟨ret_bool HD.out.symm, HB.out⟩

theorem apart_bad {l : List Opr} {i k : Nat} {x y : Opr} (hx : l[i]? = some x) (hy : l[k]? = some y) (hk : k < i) (h : ¬ SepO y x) : ¬ l.Pairwise SepO := by
  intro hp
  obtain ⟨h1, e1⟩ := List.getElem?_eq_some_iff.1 hx
  obtain ⟨h2, e2⟩ := List.getElem?_eq_some_iff.1 hy
  have := List.pairwise_iff_getElem.1 hp k i h2 h1 hk
  rw [e1, e2] at this
  exact h this
theorem apart_next {l : List Opr} {i : Nat} {x : Opr} (hx : l[i]? = some x) (hp : (l.take i).Pairwise SepO) (h : ∀ j y, j < i → l[j]? = some y → SepO y x) : (l.take (i + 1)).Pairwise SepO := by
  rw [List.take_add_one, hx]
  refine List.pairwise_append.2 ⟨hp, List.pairwise_singleton _ _, fun a ha b hb => ?_⟩
  simp only [Option.toList_some, List.mem_singleton] at hb
  subst hb
  obtain ⟨j, hj, e⟩ := List.getElem_of_mem ha
  have hji : j < i := by rw [List.length_take] at hj; omega
  exact h j a hji (by rw [← List.getElem?_take_of_lt hji, List.getElem?_eq_getElem hj, e])
set_option maxHeartbeats 4000000 in
set_option maxRecDepth 100000 in
theorem l09Apart_any (v : Value) (l : List Opr) (w : World) (hl : RdO w w.heap.size v l) :
    Calls Try.prog 20 #[v] w fun e w' => e = .returned (.bool (decide (l.Pairwise SepO))) ∧ Below w.heap.size w w' := by
  have mixed : Try.prog.follows Departure.mixedOrders = true := by kernel_rfl
  obtain ⟨A, N, c, rfl, hln, hl', gl⟩ := hl
  have GL := Lib.hid gl
  have HLN := Lib.hid hl'.out
  clear gl hl'
  generalize hR : decide (l.Pairwise SepO) = R
  have HR := Lib.hid hR
  clear hR
  go_enter Try.func20, Try.ntmps20
  go_wp2
  go_loopw [3] (fun s3 wr => ∃ i : Nat, i ≤ N ∧ s3 = .int .i64 i ∧ Hid ((l.take i).Pairwise SepO) ∧ Hid (Below w.heap.size w wr)) (fun s3 _ => N - (intOf s3).toNat)
  case atStart => exact ⟨0, Nat.zero_le _, rfl, by unfold Hid; simp, Below.refl _ _⟩
  case round =>
    rename_i wr
    obtain ⟨i, hi, rfl, HP, HB⟩ := hrel
    by_cases hlt : i < N
    · obtain ⟨b, off, x, rfl, hbb, hlk, hc⟩ := GL.out i hlt
      have HLK := Lib.hid hlk
      have HC := Lib.hid hc
      clear hlk hc
      have hiz : (i : Int) < (N : Int) := by omega
      go_wp2
      go_loopw [4] (fun s4 w2 => ∃ (W2 : World) (k : Nat), W2 = w2 ∧ k ≤ i ∧ s4 = .int .i64 k ∧ Hid (∀ j y, j < k → l[j]? = some y → SepO y x) ∧ Hid (Below w.heap.size w W2)) (fun s4 _ => i - (intOf s4).toNat)
      case atStart => exact ⟨_, 0, rfl, Nat.zero_le _, rfl, fun j y hj => absurd hj (by omega), HB.out⟩
      case round =>
        obtain ⟨W2, k, hW2, hk, rfl, HQ, HB2⟩ := hrel
        subst hW2
        by_cases hki : k < i
        · have hkiz : (k : Int) < (i : Int) := by omega
          have hkN : (k : Int) < (N : Int) := by omega
          obtain ⟨b', off', y, e, hbb', hlk', hc'⟩ := GL.out k (by omega)
          injection e with e
          injection e with e1 e2
          subst e1 e2
          obtain ⟨-, -, x2, x3, x4, x5, -, -⟩ := (HC.out.below HB2.out hbb).eight
          obtain ⟨-, -, y2, y3, y4, y5, -, -⟩ := (hc'.below HB2.out hbb).eight
          have HLY := Lib.hid hlk'
          clear hlk' hc' hbb'
          have q1 := fun W => eql_nd x.fb x.fa y.fb y.fa W
          have q2 := fun W => eql_nd x.fb x.fa y.tb y.ta W
          have q3 := fun W => eql_nd x.tb x.ta y.fb y.fa W
          have q4 := fun W => eql_nd x.tb x.ta y.tb y.ta W
          have hsp : SepO y x ↔ ¬ ((decide (x.fb = y.fb) && decide (x.fa = y.fa)) = true ∨ (decide (x.fb = y.tb) && decide (x.fa = y.ta)) = true ∨ (decide (x.tb = y.fb) && decide (x.ta = y.fa)) = true ∨ (decide (x.tb = y.tb) && decide (x.ta = y.ta)) = true) := by
            simp only [SepO, Opr.f, Opr.t, ne_eq, Prod.mk.injEq, Bool.and_eq_true, decide_eq_true_eq, not_or]
            constructor
            · rintro ⟨h1, h2, h3, h4⟩
              exact ⟨fun h => h1 ⟨h.1.symm, h.2.symm⟩, fun h => h3 ⟨h.1.symm, h.2.symm⟩, fun h => h2 ⟨h.1.symm, h.2.symm⟩, fun h => h4 ⟨h.1.symm, h.2.symm⟩⟩
            · rintro ⟨h1, h2, h3, h4⟩
              exact ⟨fun h => h1 ⟨h.1.symm, h.2.symm⟩, fun h => h3 ⟨h.1.symm, h.2.symm⟩, fun h => h2 ⟨h.1.symm, h.2.symm⟩, fun h => h4 ⟨h.1.symm, h.2.symm⟩⟩
          generalize (decide (x.fb = y.fb) && decide (x.fa = y.fa)) = p1 at q1 hsp
          generalize (decide (x.fb = y.tb) && decide (x.fa = y.ta)) = p2 at q2 hsp
          generalize (decide (x.tb = y.fb) && decide (x.ta = y.fa)) = p3 at q3 hsp
          generalize (decide (x.tb = y.tb) && decide (x.ta = y.ta)) = p4 at q4 hsp
          have HSP := Lib.hid hsp
          clear hsp
          have hBAD : ¬ SepO y x → R = false := fun h => by rw [← HR.out]; exact decide_eq_false (apart_bad HLK.out HLY.out hki h)
          have HBAD := Lib.hid hBAD
          clear hBAD
          cases p1
          · cases p2
            · cases p3
              · cases p4
                · have HNX := Lib.hid (show ∀ j z, j < k + 1 → l[j]? = some z → SepO z x from fun j z hj hz => by
                    by_cases hjk : j < k
                    · exact HQ.out j z hjk hz
                    · obtain rfl : j = k := by omega
                      rw [HLY.out] at hz
                      cases hz
                      exact HSP.out.2 (by simp))
                  go_wp2_with fail
                  go_big_quiet_o (fail)
                  go_wp2
                  exact ⟨⟨_, k + 1, rfl, by omega, by go_num, HNX.out, (by first | exact HB2.out | exact below_drewN HB2.out _)⟩, by simp [intOf]; omega⟩
                · have HF := Lib.hid (HBAD.out (fun h => HSP.out.1 h (by simp)))
                  go_wp2_with fail
                  go_big_quiet_o (fail)
                  go_wp2
                  go_ret
                  exact ⟨ret_bool HF.out.symm, (by first | exact HB2.out | exact below_drewN HB2.out _)⟩
              · have HF := Lib.hid (HBAD.out (fun h => HSP.out.1 h (by simp)))
                go_wp2_with fail
                go_big_quiet_o (fail)
                go_wp2
                go_ret
                exact ⟨ret_bool HF.out.symm, (by first | exact HB2.out | exact below_drewN HB2.out _)⟩
            · have HF := Lib.hid (HBAD.out (fun h => HSP.out.1 h (by simp)))
              go_wp2_with fail
              go_big_quiet_o (fail)
              go_wp2
              go_ret
              exact ⟨ret_bool HF.out.symm, (by first | exact HB2.out | exact below_drewN HB2.out _)⟩
          · have HF := Lib.hid (HBAD.out (fun h => HSP.out.1 h (by simp)))
            go_wp2_with fail
            go_big_quiet_o (fail)
            go_wp2
            go_ret
            exact ⟨ret_bool HF.out.symm, (by first | exact HB2.out | exact below_drewN HB2.out _)⟩
        · have hki' : ¬ (k : Int) < (i : Int) := by omega
          have HNX := Lib.hid (apart_next HLK.out HP.out (fun j y hj hy => HQ.out j y (by omega) hy))
          go_wp2
          exact ⟨⟨i + 1, by omega, by go_num, HNX.out, HB2.out⟩, by simp [intOf]; omega⟩
    · have hk' : i = N := by omega
      subst hk'
      have HD := Lib.hid (show R = true from by
        rw [← HR.out]
        refine decide_eq_true ?_
        have := HP.out
        rwa [List.take_of_length_le (by have := HLN.out; omega)] at this)
      go_wp2
      go_ret
      exact ⟨ret_bool HD.out.symm, HB.out⟩

end Go.Proofs.Ytolcgopfbbmjgaa
