/-
  Texts joined: Sw8, St1.
-/
import Derived.Test.YtolcgopfbbmjgaaPk6
import Derived.Shelf.SlGeneric
import Derived.Test.YtolcgopfbbmjgaaPlc
/-
  The library's stable sort at operations: symMerge as a whole; the insertion sort off the shelf.
-/
namespace Go.Proofs.Ytolcgopfbbmjgaa
set_option linter.unusedVariables false
set_option linter.unusedSimpArgs false
open Go.Sort Go.Shelf Go.RowKit Go.Lib

theorem sym_any {w : World} {blk off cap : Nat} {d0 : Array Opr} (H : SwR w blk off d0) {g : Nat} {cb : Array Value} {cf : Opr → Opr → Int} {key : Opr → Int} (C : CmpA w blk off d0.size g cb cf key) : ∀ K, SymIH w blk off cap d0 g cb key K := by
  intro K
  induction K using Nat.strongRecOn with
  | ind K ih =>
    intro m0 d os hd X L R Y h hl hr hk sL sR a m b N ha hm hb hN
    by_cases h1 : L.length = 1
    · obtain ⟨x, rfl⟩ := List.length_eq_one_iff.1 h1
      exact symA_any H C m0 d os hd X x R Y h hr sR a m b N ha (by simpa using hm) hb hN
    · by_cases h2 : R.length = 1
      · obtain ⟨y, rfl⟩ := List.length_eq_one_iff.1 h2
        exact symB_any H C m0 d os hd X L y Y h (by omega) sL a m b N ha hm (by simpa using hb) hN
      · exact symC_any H C m0 d os hd X L R Y (ih _ hk) h (by omega) (by omega) sL sR a m b N ha hm hb hN

def insLay_ren : Go.Shelf.Ren := ⟨fun | 20 => 78 | n => n, fun | 24 => 55 | 22 => 24 | 3 => 3 | 25 => 82 | 4 => 4 | 0 => 0 | n => n, fun | n => n⟩
theorem insLay : Go.Proofs.SlLaysF0.n20 Try.prog insLay_ren := {
  mixed := by kernel_rfl
  f20 := ⟨Try.f78.name, by decide, Try.func78.trans (congrArg some (by kernel_rfl))⟩
  t0 := Try.underlying0
  a0 := Try.isAgg0
  z0 := Try.sizeOf0
  v0 := Try.zeroValue0
  t3 := Try.underlying3
  a3 := Try.isAgg3
  z3 := Try.sizeOf3
  v3 := Try.zeroValue3
  t4 := Try.underlying4
  a4 := Try.isAgg4
  z4 := Try.sizeOf4
  v4 := Try.zeroValue4
  t22 := Try.underlying24
  a22 := Try.isAgg24
  z22 := Try.sizeOf24
  v22 := Try.zeroValue24
  t25 := Try.underlying82
  a25 := Try.isAgg82
  z25 := Try.sizeOf82
  v25 := Try.zeroValue82 }

theorem agg_op (w : World) : Sem.run Try.prog (isAgg 55) w = .ok true w := by kernel_rfl
theorem size_op (w : World) : Sem.run Try.prog (Go.sizeOf 55) w = .ok 8 w := by kernel_rfl
theorem opr_one (x : Opr) : ∀ v ∈ x.cells, v.oneCell' = true := fun v hv => by
  simp only [Opr.cells, List.mem_cons, List.not_mem_nil, or_false] at hv
  rcases hv with rfl | rfl | rfl | rfl | rfl | rfl | rfl | rfl <;> rfl
theorem ins_any {w : World} {blk off cap : Nat} {d0 : Array Opr} (H : SwR w blk off d0) {g : Nat} {cb : Array Value} {cf : Opr → Opr → Int} {key : Opr → Int} (C : CmpA w blk off d0.size g cb cf key) (m0 : Nat) (d : Array Opr) (os : Array Obj) (hd : d.size = d0.size) (X M Y : List Opr) (h : d.toList = X ++ (M ++ Y)) (a b N : Nat) (ha : a = X.length) (hb : b = X.length + M.length) (hN : N = d.size) :
    Calls Try.prog 78 #[.slice (some ⟨blk, off, none⟩) N cap, .int .i64 (a : Int), .int .i64 (b : Int), .func (.func g) #[] cb] (SW w blk off m0 d os) fun e w' => e = .returned (.tuple #[]) ∧ ∃ m' d' os' S, w' = SW w blk off m' d' os' ∧ d'.size = d0.size ∧ d'.toList = X ++ (S ++ Y) ∧ Stb key M S := by
  subst hN
  have hsz := H.sz
  have hlen : X.length + (M.length + Y.length) = d.size := by
    have := congrArg List.length h
    simp at this
    omega
  have hcmp : CmpLays Try.prog g cb Opr.cells 8 cf blk off d.size (SW w blk off m0 d os) := fun m os' dk hs x y => by
    show Calls _ _ _ (sortWorldK Opr.cells 8 (sortWorldK Opr.cells 8 w blk off m0 d os) blk off m dk os') _
    rw [sortWorldK_on Opr.cells 8 w blk off m0 m d dk os os' H.lt hs]
    exact C.lays _ _ dk (hs.trans hd) x y
  have hcon := AnyQ.insertionSortCmpFunc insLay 8 agg_op size_op Opr.cells Opr.len opr_one cf g cb blk off cap a b d (SW w blk off m0 d os) C.enters hcmp (H.at_ m0 d os hd) (lt_sortWorldK Opr.cells 8 w blk off m0 d os H.lt) (by omega) (by omega) (by omega)
  change Calls Try.prog 78 _ _ _ at hcon
  refine hcon.mono ?_
  rintro e w' ⟨rfl, n, os', hw⟩
  have hlt : ∀ x y, ltOf cf x y = decide (key x < key y) := fun x y => by
    show decide (cf x y < 0) = _
    by_cases h1 : cf x y < 0
    · rw [decide_eq_true h1, decide_eq_true ((C.less x y).1 h1)]
    · rw [decide_eq_false h1, decide_eq_false (fun h2 => h1 ((C.less x y).2 h2))]
  obtain ⟨S, h1, h2, h3⟩ := ins_stb (key := key) (ltOf cf) hlt h
  subst ha hb
  have hsd : (Sort.insertionSort (ltOf cf) d X.length (X.length + M.length)).size = d.size := by
    rw [← Array.length_toList, h1]; simp; omega
  exact ⟨rfl, _, _, _, S, by rw [hw]; exact sortWorldK_on Opr.cells 8 w blk off m0 n d _ os os' H.lt hsd, hsd.trans hd, h1, h2⟩

/-- What the stable sort does. -/
def StDid (w : World) (blk off : Nat) (d0 : Array Opr) (key : Opr → Int) (l : List Opr) (e : Ending) (w' : World) : Prop :=
  e = .returned (.tuple #[]) ∧ ∃ m' d' os', w' = SW w blk off m' d' os' ∧ d'.size = d0.size ∧ Stb key l d'.toList
set_option maxHeartbeats 8000000 in
set_option maxRecDepth 100000 in
theorem stableA_any {w : World} {blk off cap : Nat} {d0 : Array Opr} (H : SwR w blk off d0) {g : Nat} {cb : Array Value} {cf : Opr → Opr → Int} {key : Opr → Int} (C : CmpA w blk off d0.size g cb cf key) (l : List Opr) (hl : d0.toList = l) (N : Nat) (hN : N = d0.size) (h20 : N < 20) :
    Calls Try.prog 62 #[.slice (some ⟨blk, off, none⟩) N cap, .int .i64 (N : Int), .func (.func g) #[] cb] (SW w blk off 0 d0 #[]) (StDid w blk off d0 key l) := by
  have mixed : Try.prog.follows Departure.mixedOrders = true := by kernel_rfl
  have HC := Lib.hid (show ∀ cap, Calls Try.prog 78 #[.slice (some ⟨blk, off, none⟩) N cap, .int .i64 0, .int .i64 (N : Int), .func (.func g) #[] cb] (SW w blk off 0 d0 #[]) fun e w' => e = .returned (.tuple #[]) ∧ ∃ m' d' os' S, w' = SW w blk off m' d' os' ∧ d'.size = d0.size ∧ d'.toList = [] ++ (S ++ []) ∧ Stb key l S from fun cap => ins_any H C 0 d0 #[] rfl [] l [] (by rw [hl]; simp) 0 N N rfl (by rw [hN, ← hl]; simp) hN)
  clear H C hl hN
  have hn1 : ¬ (20 : Int) ≤ (N : Int) := by omega
  have hn2 : ¬ (20 : Int) < (N : Int) := by omega
  go_enter Try.func62, Try.ntmps62
  go_wp2
  go_loopw [7, 8] (fun v7 v8 wr => wr = SW w blk off 0 d0 #[] ∧ v7 = .int .i64 0 ∧ v8 = .int .i64 20) (fun v7 _ _ => 0)
  case atStart => exact ⟨rfl, rfl, rfl⟩
  case round =>
    obtain ⟨hw1, rfl, rfl⟩ := hrel
    subst hw1
    go_wp2_with (go_at_call 78; refine (HC.out _).mono ?_; rintro e w' ⟨rfl, m2, d2, o2, S, hw2, hs2, hl2, hst⟩)
    have HF := Lib.hid (show d2.size = d0.size ∧ d2.toList = S ∧ Stb key l S from ⟨hs2, by rw [hl2]; simp, hst⟩)
    clear hs2 hl2 hst
    go_loopw [6] (fun v6 wr => wr = SW w blk off m2 d2 o2 ∧ v6 = .int .i64 20) (fun v7 _ => 0)
    case atStart => exact ⟨by first | rfl | exact hw2, rfl⟩
    case round =>
      obtain ⟨hw3, rfl⟩ := hrel
      go_wp2
      go_end0
      exact ⟨rfl, m2, d2, o2, by first | rfl | exact hw3, HF.out.1, by rw [HF.out.2.1]; exact HF.out.2.2⟩

set_option maxHeartbeats 8000000 in
set_option maxRecDepth 100000 in
theorem stableB_any {w : World} {blk off cap : Nat} {d0 : Array Opr} (H : SwR w blk off d0) {g : Nat} {cb : Array Value} {cf : Opr → Opr → Int} {key : Opr → Int} (C : CmpA w blk off d0.size g cb cf key) (l : List Opr) (hl : d0.toList = l) (N : Nat) (hN : N = d0.size) (h20 : 20 ≤ N) (h24 : N ≤ 24) :
    Calls Try.prog 62 #[.slice (some ⟨blk, off, none⟩) N cap, .int .i64 (N : Int), .func (.func g) #[] cb] (SW w blk off 0 d0 #[]) (StDid w blk off d0 key l) := by
  have mixed : Try.prog.follows Departure.mixedOrders = true := by kernel_rfl
  have hll : l.length = N := by rw [hN, ← hl]; simp
  have HH := Lib.hid H
  have HCC := Lib.hid C
  have HN := Lib.hid hN
  have HLL := Lib.hid hll
  have HC := Lib.hid (show ∀ cap, Calls Try.prog 78 #[.slice (some ⟨blk, off, none⟩) N cap, .int .i64 0, .int .i64 20, .func (.func g) #[] cb] (SW w blk off 0 d0 #[]) fun e w' => e = .returned (.tuple #[]) ∧ ∃ m' d' os' S, w' = SW w blk off m' d' os' ∧ d'.size = d0.size ∧ d'.toList = [] ++ (S ++ l.drop 20) ∧ Stb key (l.take 20) S from fun cap => ins_any H C 0 d0 #[] rfl [] (l.take 20) (l.drop 20) (by rw [hl]; simp) 0 20 N rfl (by rw [List.length_take]; simp; omega) hN)
  clear H C hl hN hll
  have hn1 : (20 : Int) ≤ (N : Int) := by omega
  have hn2 : ¬ (40 : Int) ≤ (N : Int) := by omega
  have hn3 : ¬ (40 : Int) < (N : Int) := by omega
  go_enter Try.func62, Try.ntmps62
  go_wp2
  go_loopw [7, 8] (fun v7 v8 wr => (wr = SW w blk off 0 d0 #[] ∧ v7 = .int .i64 0 ∧ v8 = .int .i64 20) ∨ (∃ (m2 : Nat) (d2 : Array Opr) (o2 : Array Obj) (S : List Opr), wr = SW w blk off m2 d2 o2 ∧ v7 = .int .i64 20 ∧ v8 = .int .i64 40 ∧ Hid (d2.size = d0.size) ∧ Hid (d2.toList = S ++ l.drop 20) ∧ Hid (Stb key (l.take 20) S))) (fun v7 _ _ => 20 - (intOf v7).toNat)
  case atStart => exact .inl ⟨rfl, rfl, rfl⟩
  case round =>
    rcases hrel with ⟨hw1, rfl, rfl⟩ | ⟨m2, d2, o2, S, hw1, rfl, rfl, hs2, hl2, hst⟩
    · subst hw1
      go_wp2_with (go_at_call 78; refine (HC.out _).mono ?_; rintro e w' ⟨rfl, m2, d2, o2, S, hw2, hs2, hl2, hst⟩)
      refine ⟨.inr ⟨m2, d2, o2, S, by first | rfl | exact hw2, rfl, by go_num, hs2, by unfold Hid; rw [hl2]; simp, hst⟩, by simp [intOf]⟩
    · subst hw1
      clear hn1
      have hsl : S.length = 20 := by rw [hst.out.2.length, List.length_take]; have := HLL.out; omega
      have HS := Lib.hid hsl
      have hC2 : ∀ cap, Calls Try.prog 78 #[.slice (some ⟨blk, off, none⟩) N cap, .int .i64 20, .int .i64 (N : Int), .func (.func g) #[] cb] (SW w blk off m2 d2 o2) fun e w' => e = .returned (.tuple #[]) ∧ ∃ m' d' os' T, w' = SW w blk off m' d' os' ∧ d'.size = d0.size ∧ d'.toList = S ++ (T ++ []) ∧ Stb key (l.drop 20) T :=
        fun cap => ins_any HH.out HCC.out m2 d2 o2 hs2.out S (l.drop 20) [] (by rw [hl2.out]; simp) 20 N N hsl.symm (by rw [hsl, List.length_drop]; have := HLL.out; omega) (by rw [hs2.out]; exact HN.out)
      have HC2 := Lib.hid hC2
      clear hC2 hsl hs2 hl2
      go_wp2_with (go_at_call 78; refine (HC2.out _).mono ?_; rintro e w' ⟨rfl, m3, d3, o3, T, hw3, hs3, hl3, hst3⟩)
      have HS3 := Lib.hid hs3
      have HL3 := Lib.hid (show d3.toList = S ++ T by rw [hl3]; simp)
      have HT3 := Lib.hid hst3
      clear hs3 hl3 hst3
      go_loopw [6] (fun v6 wr => (wr = SW w blk off m3 d3 o3 ∧ v6 = .int .i64 20) ∨ (∃ (m4 : Nat) (d4 : Array Opr) (o4 : Array Obj) (M : List Opr), wr = SW w blk off m4 d4 o4 ∧ v6 = .int .i64 40 ∧ Hid (d4.size = d0.size) ∧ Hid (d4.toList = M) ∧ Hid (Stb key l M))) (fun v6 _ => 40 - (intOf v6).toNat)
      case atStart => exact .inl ⟨by first | rfl | exact hw3, rfl⟩
      case round =>
        have hfil : Fil key l (S ++ T) := by
          have := hst.out.2.app HT3.out.2
          rwa [List.take_append_drop] at this
        have HFI := Lib.hid hfil
        clear hfil
        rcases hrel with ⟨hw4, rfl⟩ | ⟨m4, d4, o4, M, hw4, rfl, hs4, hl4, hst4⟩
        · by_cases hlt : 20 < N
          · have hlz : (20 : Int) < (N : Int) := by omega
            subst hw4
            have htl : T.length = N - 20 := by rw [HT3.out.2.length, List.length_drop]; have := HLL.out; omega
            have hC4 : Calls Try.prog 79 #[.slice (some ⟨blk, off, none⟩) N cap, .int .i64 0, .int .i64 20, .int .i64 (N : Int), .func (.func g) #[] cb] (SW w blk off m3 d3 o3) (SymDid w blk off d0 key [] S T []) :=
              sym_any (cap := cap) HH.out HCC.out (S.length + T.length + 1) m3 d3 o3 HS3.out [] S T [] (by rw [HL3.out]; simp) (by rw [HS.out]; omega) (by omega) (by omega) hst.out.1 HT3.out.1 0 20 N N rfl (by rw [HS.out]) (by omega) (by rw [HS3.out]; exact HN.out)
            have HC4 := Lib.hid hC4
            clear hC4 htl
            go_wp2
            go_loopw [7, 8] (fun v7 v8 wr => ∃ W2 : World, W2 = wr ∧ W2 = SW w blk off m3 d3 o3 ∧ v7 = .int .i64 0 ∧ v8 = .int .i64 40) (fun v7 _ _ => 0)
            case atStart => exact ⟨_, rfl, rfl, rfl, rfl⟩
            case round =>
              obtain ⟨W2, hW2, hw5, rfl, rfl⟩ := hrel
              subst hW2
              subst hw5
              go_wp2_with (go_at_call 79; refine HC4.out.mono ?_; rintro e w' ⟨rfl, m5, d5, o5, M, hw5, hs5, hl5, hst5⟩)
              refine ⟨.inr ⟨m5, d5, o5, M, by first | rfl | exact hw5, by go_num, hs5, by unfold Hid; rw [hl5]; simp, ⟨hst5.1, HFI.out.trans hst5.2⟩⟩, by simp [intOf]⟩
          · have hlz : ¬ (20 : Int) < (N : Int) := by omega
            have htl : T = [] := List.eq_nil_of_length_eq_zero (by rw [HT3.out.2.length, List.length_drop]; have := HLL.out; omega)
            have HFN := Lib.hid (show Stb key l (S ++ T) from ⟨by rw [htl, List.append_nil]; exact hst.out.1, HFI.out⟩)
            clear htl
            go_wp2
            go_end0
            exact ⟨rfl, m3, d3, o3, by first | rfl | exact hw4, HS3.out, by rw [HL3.out]; exact HFN.out⟩
        · go_wp2
          go_end0
          exact ⟨rfl, m4, d4, o4, by first | rfl | exact hw4, hs4.out, by rw [hl4.out]; exact hst4.out⟩
theorem stable_any {w : World} {blk off cap : Nat} {d0 : Array Opr} (H : SwR w blk off d0) {g : Nat} {cb : Array Value} {cf : Opr → Opr → Int} {key : Opr → Int} (C : CmpA w blk off d0.size g cb cf key) (l : List Opr) (hl : d0.toList = l) (N : Nat) (hN : N = d0.size) (h24 : N ≤ 24) :
    Calls Try.prog 62 #[.slice (some ⟨blk, off, none⟩) N cap, .int .i64 (N : Int), .func (.func g) #[] cb] w (StDid w blk off d0 key l) := by
  have hs := sortWorldK_start Opr.cells 8 w blk off d0 H.holds
  have : Calls Try.prog 62 #[.slice (some ⟨blk, off, none⟩) N cap, .int .i64 (N : Int), .func (.func g) #[] cb] (SW w blk off 0 d0 #[]) (StDid w blk off d0 key l) := by
    by_cases h20 : N < 20
    · exact stableA_any H C l hl N hN h20
    · exact stableB_any H C l hl N hN (by omega) h24
  rw [show SW w blk off 0 d0 #[] = w from hs] at this
  exact this

end Go.Proofs.Ytolcgopfbbmjgaa

/-
  The program's ordering of transfers: the closure that compares places; the library's stable sort as it is called.
-/
namespace Go.Proofs.Ytolcgopfbbmjgaa
set_option linter.unusedVariables false
set_option linter.unusedSimpArgs false
open Go.Sort Go.Shelf Go.RowKit Go.Lib

/-- A place as the program reckons it, of whatever number. -/
def plcW (b a r : Int) : Int := if b = 2 then wrap64 (a + r) else a
def cmpI (x y : Int) : Int := if x < y then -1 else if y < x then 1 else 0
theorem cmpI_lt (x y : Int) : cmpI x y < 0 ↔ x < y := by unfold cmpI; split <;> (try split) <;> omega
theorem box_at (w : World) (E : TypeId) (us : List Value) : CellsAt (w.alloc (.cells us.toArray E)) w.heap.size 0 us := fun j u hu => by
  rw [Nat.zero_add, cell_of_row _ _ _ us.toArray E (0, 0) (heap_alloc_new w _)]
  simpa using hu
theorem alloc_below (w : World) (o : Obj) : Below w.heap.size w (w.alloc o) := (Below.refl _ _).alloc (Nat.le_refl _) o
theorem cell_grw {w : World} {b o : Nat} {v : Value} (h : w.cell? ⟨b, o, none⟩ = some v) (n : Nat) (os : Array Obj) : (grow (w.drewN n) os).cell? ⟨b, o, none⟩ = some v := by
  rw [cell?_grow _ _ _ (by exact block_lt_of_cell h)]; exact h

theorem placeW_any (b a r : Int) (w : World) : Calls Try.prog 43 #[.agg #[.int .i64 b, .int .i64 a], .int .i64 r] w fun e w' => e = .returned (.int .i64 (plcW b a r)) ∧ ∃ q os, w' = grow (w.drewN q) os := by
  by_cases hb : b = 2
  · subst hb
    rw [show plcW 2 a r = wrap64 (a + r) from rfl]
    go_enter Try.func43, Try.ntmps43
    go_wp2
    go_ret
    exact ⟨rfl, 0, _, by rw [alloc_eq_grow]; rfl⟩
  · have h2 : (b == 2) = false := by simpa using hb
    rw [show plcW b a r = a by unfold plcW; rw [if_neg hb]]
    clear hb
    go_enter Try.func43, Try.ntmps43
    go_wp2
    go_ret
    exact ⟨rfl, 0, _, by rw [alloc_eq_grow]; rfl⟩
theorem isNaN_any (x : Int) (w : World) : Calls Try.prog 63 #[.int .i64 x] w fun e w' => e = .returned (.bool false) ∧ w' = w := by
  go_enter Try.func63, Try.ntmps63
  go_wp2
  go_ret
  exact ⟨ret_bool (by simp), rfl⟩
theorem compare_any (x y : Int) (w : World) : Calls Try.prog 42 #[.int .i64 x, .int .i64 y] w fun e w' => e = .returned (.int .i64 (cmpI x y)) ∧ w' = w := by
  by_cases h1 : x < y
  · rw [show cmpI x y = -1 by unfold cmpI; rw [if_pos h1]]
    go_enter Try.func42, Try.ntmps42
    go_wp2_with (go_at_call 63; refine (isNaN_any _ _).mono ?_; rintro e w' ⟨rfl, rfl⟩)
    go_ret
    exact ⟨rfl, rfl⟩
  · by_cases h2 : y < x
    · rw [show cmpI x y = 1 by unfold cmpI; rw [if_neg h1, if_pos h2]]
      go_enter Try.func42, Try.ntmps42
      go_wp2_with (go_at_call 63; refine (isNaN_any _ _).mono ?_; rintro e w' ⟨rfl, rfl⟩)
      go_ret
      exact ⟨rfl, rfl⟩
    · rw [show cmpI x y = 0 by unfold cmpI; rw [if_neg h1, if_neg h2]]
      go_enter Try.func42, Try.ntmps42
      go_wp2_with (go_at_call 63; refine (isNaN_any _ _).mono ?_; rintro e w' ⟨rfl, rfl⟩)
      go_ret
      exact ⟨rfl, rfl⟩
set_option maxHeartbeats 4000000 in
set_option maxRecDepth 100000 in
theorem closure_any (x y : Opr) (bp : Nat) (r : Int) (w : World) (hp : w.cell? ⟨bp, 3, none⟩ = some (.int .i64 r)) : Calls Try.prog 41 #[x.v, y.v, .pointer (some ⟨bp, 0, none⟩)] w fun e w' => e = .returned (.int .i64 (cmpI (plcW x.fb x.fa r) (plcW y.fb y.fa r))) ∧ ∃ q os, w' = grow (w.drewN q) os := by
  have mixed : Try.prog.follows Departure.mixedOrders = true := by kernel_rfl
  have hlt := block_lt_of_cell hp
  have HX := Lib.hid (show CellsAt ((w.alloc (.cells x.cells.toArray 55)).alloc (.cells y.cells.toArray 55)) w.heap.size 0 x.cells from (box_at w _ _).below (alloc_below _ _) (by simp))
  have HY := Lib.hid (show CellsAt ((w.alloc (.cells x.cells.toArray 55)).alloc (.cells y.cells.toArray 55)) (w.heap.size + 1) 0 y.cells from by
    have := box_at (w.alloc (.cells x.cells.toArray 55)) 55 y.cells
    simpa using this)
  have HP := Lib.hid (show ((w.alloc (.cells x.cells.toArray 55)).alloc (.cells y.cells.toArray 55)).cell? ⟨bp, 3, none⟩ = some (.int .i64 r) by
    rw [(alloc_below _ _).cell (p := ⟨bp, 3, none⟩) (by simp; simp at hlt; omega), (alloc_below _ _).cell (p := ⟨bp, 3, none⟩) (by simpa using hlt)]; exact hp)
  have HG := Lib.hid (show ((w.alloc (.cells x.cells.toArray 55)).alloc (.cells y.cells.toArray 55)) = grow (w.drewN 0) #[.cells x.cells.toArray 55, .cells y.cells.toArray 55] by
    rw [alloc_eq_grow, alloc_eq_grow, grow_grow]; rfl)
  clear hp
  go_enter Try.func41, Try.ntmps41
  go_wp2_with fail
  generalize World.alloc _ (Obj.cells #[.int .i64 y.k, .int .i64 y.d, .int .i64 y.fb, .int .i64 y.fa, .int .i64 y.tb, .int .i64 y.ta, .int .i64 y.c, .int .i64 y.r] _) = W at HX HY HP HG ⊢
  have x2 := fun n os => cell_grw (HX.out 2 _ rfl) n os
  have x3 := fun n os => cell_grw (HX.out 3 _ rfl) n os
  have y2 := fun n os => cell_grw (HY.out 2 _ rfl) n os
  have y3 := fun n os => cell_grw (HY.out 3 _ rfl) n os
  have p3 := fun n os => cell_grw HP.out n os
  simp only [Nat.zero_add] at x2 x3 y2 y3
  have HC := Lib.hid (fun (a b : Int) (w : World) => (compare_any a b w).mono (fun e w' h => (⟨h.1, 0, #[], by rw [h.2, grow_empty]; rfl⟩ : e = Ending.returned (.int .i64 (cmpI a b)) ∧ ∃ q os, w' = grow (w.drewN q) os)))
  refine wp_region_quiet_grown (by assumption) (by kernel_rfl) ?_
  iterate 9 (quiet_step ((go_at_call 43; refine Calls.grown_of (placeW_any x.fb x.fa r _))))
  iterate 1 (quiet_step ((go_at_call 43; refine Calls.grown_of (placeW_any y.fb y.fa r _))))
  repeat (quiet_step ((go_at_call 42; refine Calls.grown_of (HC.out _ _ _))))
  refine wpQuiet_nil ?_
  rintro w2 ⟨⟨nq, osq⟩, hw2⟩
  go_wp2
  go_ret
  exact ⟨rfl, nq, #[.cells x.cells.toArray 55, .cells y.cells.toArray 55] ++ osq, by rw [HG.out]; show grow (grow ((w.drewN 0).drewN nq) _) osq = _; rw [grow_grow, World.drewN_drewN, Nat.zero_add]⟩
theorem cmpA_closure {w : World} {blk off size bp : Nat} {r : Int} (hp : w.cell? ⟨bp, 3, none⟩ = some (.int .i64 r)) (hne : bp ≠ blk) :
    CmpA w blk off size 41 #[.pointer (some ⟨bp, 0, none⟩)] (fun x y => cmpI (plcW x.fb x.fa r) (plcW y.fb y.fa r)) (fun o => plcW o.fb o.fa r) where
  lays := fun m os dk hs x y => by
    refine closure_any x y bp r _ ?_
    have hlt := block_lt_of_cell hp
    unfold sortWorldK
    rw [cell?_grow _ _ _ (by rw [size_putRowK]; exact hlt), cell?_putRowK_other Opr.cells 8 _ blk off dk _ hne]
    exact hp
  enters := enters_of Try.func41 (by kernel_rfl) rfl
  less := fun x y => cmpI_lt _ _
theorem sortStable_any {w : World} {blk off cap : Nat} {d0 : Array Opr} (H : SwR w blk off d0) {bp : Nat} {r : Int} (hp : w.cell? ⟨bp, 3, none⟩ = some (.int .i64 r)) (hne : bp ≠ blk) (l : List Opr) (hl : d0.toList = l) (N : Nat) (hN : N = d0.size) (h24 : N ≤ 24) :
    Calls Try.prog 40 #[.slice (some ⟨blk, off, none⟩) N cap, .func (.func 41) #[] #[.pointer (some ⟨bp, 0, none⟩)]] w (StDid w blk off d0 (fun o => plcW o.fb o.fa r) l) := by
  have HC := Lib.hid (fun cap => stable_any (cap := cap) H (cmpA_closure hp hne) l hl N hN h24)
  clear H hp hne hl hN
  go_enter Try.func40, Try.ntmps40
  go_wp2_with (go_at_call 62; refine (HC.out _).mono ?_; rintro e w' ⟨rfl, h⟩)
  go_wp2
  first | go_end0 | refine bodyPost_ret (results_none rfl _ _ _) rfl ?_
  exact ⟨rfl, h⟩

end Go.Proofs.Ytolcgopfbbmjgaa
