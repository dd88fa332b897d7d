/-
  Texts joined: OkV, FtxP, Ftx0, Sb, FtxA, FtxB, FtxC.
-/
import Derived.Test.YtccdnmafakaleaaGreatDoorPk4
import Derived.Test.YtccdnmafakaleaaGreatDoorStrands
import Derived.Test.YtccdnmafakaleaaGreatDoorBraid
import Derived.Test.YtccdnmafakaleaaGreatDoorTxt0
import Derived.Lib.ItoaLen
import Derived.Test.YtccdnmafakaleaaGreatDoorPk8
import Derived.Test.YtccdnmafakaleaaGreatDoorEvtD
import Derived.Test.YtccdnmafakaleaaGreatDoorJoin
import Derived.Test.YtccdnmafakaleaaGreatDoorOwn
import Derived.Shelf.Strings.BuilderK
import Derived.Test.YtccdnmafakaleaaGreatDoorDec
import Derived.Test.YtccdnmafakaleaaGreatDoorEvtB
import Derived.Test.YtccdnmafakaleaaGreatDoorEvtC
/-
  Valid events are valid one by one (plain).
-/
namespace Go.Proofs.YtccdnmafakaleaaGreatDoor
set_option linter.unusedVariables false
set_option linter.unusedSimpArgs false

theorem val_up {n : Int} {e : Ev} (h0 : 0 ≤ n) (h1 : n ≤ 12) (h : valE n e = true) : valE 12 e = true := by
  obtain ⟨k, p, c, b, y, d⟩ := e
  unfold valE at h ⊢
  simp only [Bool.and_eq_true, decide_eq_true_eq] at h ⊢
  obtain ⟨hp, h⟩ := h
  refine ⟨hp, ?_⟩
  by_cases k1 : k = 1
  · simp [k1] at h ⊢
    omega
  by_cases k2 : k = 2
  · simp [k2] at h ⊢
    exact ⟨h.1, by omega, h.2.2⟩
  by_cases k3 : k = 3
  · simp [k3] at h ⊢
    exact ⟨h.1, by omega, h.2.2⟩
  by_cases k4 : k = 4
  · simp [k4] at h ⊢
    omega
  by_cases k5 : k = 5
  · simp [k5] at h ⊢
    refine ⟨h.1, h.2.1, ?_⟩
    have h3 := h.2.2
    by_cases hb : b = 1
    · rw [if_pos hb] at h3 ⊢; omega
    · rw [if_neg hb] at h3 ⊢; omega
  simp [k1, k2, k3, k4, k5] at h
theorem cnt_val (l : List Ev) : ∀ n : Int, 0 ≤ n → n ≤ 12 → (cntE n l).isSome = true → ∀ x ∈ l, valE 12 x = true := by
  induction l with
  | nil => intro n _ _ _ x hx; cases hx
  | cons e es ih =>
    intro n h0 h1 h x hx
    rw [cntE] at h
    split at h
    · rename_i hc
      rcases List.mem_cons.1 hx with rfl | hx
      · exact val_up h0 h1 hc.1
      · exact ih _ (aft_bounds h0 h1 hc.1).1 hc.2 h x hx
    · cases h
theorem ok_val {l : List Ev} (h : okEvs l = true) : ∀ x ∈ l, valE 12 x = true := by
  unfold okEvs at h
  simp only [Bool.and_eq_true] at h
  exact cnt_val l 0 (by omega) (by omega) h.1

end Go.Proofs.YtccdnmafakaleaaGreatDoor

/-
  The text of a braid (plain).
-/
namespace Go.Proofs.YtccdnmafakaleaaGreatDoor
set_option linter.unusedVariables false
set_option linter.unusedSimpArgs false

def wrdT (l : List Int) : List UInt8 := l.flatMap (fun n => 32 :: Lib.itoa n)
def brT (b : Br) : List UInt8 := (Lib.itoa b.n ++ [58]) ++ wrdT b.w
theorem wrd_next {R acc : List UInt8} {l : List Int} {k : Nat} {x : Int} (h : R = acc ++ wrdT (l.drop k)) (hx : l[k]? = some x) : R = (acc ++ (32 :: Lib.itoa x)) ++ wrdT (l.drop (k + 1)) := by
  rw [h, drop_of_get hx]
  simp [wrdT]
theorem itoa_b (n : Int) (h0 : -1000000000 ≤ n) (h1 : n ≤ 1000000000) : (Lib.itoa n).length ≤ 21 := Lib.itoa_length_le n (by omega) (by omega)
theorem wrdT_len (l : List Int) (h : ∀ x ∈ l, -1000 ≤ x ∧ x ≤ 1000) : (wrdT l).length ≤ 22 * l.length := by
  induction l with
  | nil => simp [wrdT]
  | cons a r ih =>
    have h1 := h a (by simp)
    have h2 := itoa_b a (by omega) (by omega)
    have h3 := ih (fun x hx => h x (by simp [hx]))
    have e : wrdT (a :: r) = (32 :: Lib.itoa a) ++ wrdT r := by simp [wrdT]
    rw [e]
    simp
    omega

end Go.Proofs.YtccdnmafakaleaaGreatDoor

/-
  The text of a fabric (plain).
-/
namespace Go.Proofs.YtccdnmafakaleaaGreatDoor
set_option linter.unusedVariables false
set_option linter.unusedSimpArgs false

def esT (l : List Ev) : List UInt8 := l.flatMap (fun e => evT e ++ [10])
def hdT : List UInt8 := [98, 114, 97, 105, 100, 32]
def blT (x : Bk) : List UInt8 := ((hdT ++ brT x.b) ++ [10]) ++ esT x.e
def fabT (l : List Bk) : List UInt8 := l.flatMap blT
theorem es_next {R acc tl : List UInt8} {l : List Ev} {k : Nat} {x : Ev} (h : R = acc ++ (esT (l.drop k) ++ tl)) (hx : l[k]? = some x) : R = (acc ++ (evT x ++ [10])) ++ (esT (l.drop (k + 1)) ++ tl) := by
  rw [h, drop_of_get hx]
  simp [esT]
theorem fab_next {R acc : List UInt8} {l : List Bk} {k : Nat} {x : Bk} (h : R = acc ++ fabT (l.drop k)) (hx : l[k]? = some x) : R = (acc ++ ((hdT ++ brT x.b) ++ [10])) ++ (esT (x.e.drop 0) ++ fabT (l.drop (k + 1))) := by
  rw [h, drop_of_get hx]
  simp [fabT, blT]
/-- What is known of a block of valid events. -/
structure FtOk (x : Bk) : Prop where
  n : 0 ≤ x.b.n ∧ x.b.n ≤ 12
  w : ∀ y ∈ x.b.w, -1000 ≤ y ∧ y ≤ 1000
  wl : x.b.w.length ≤ 40
  el : x.e.length ≤ 2000
  ev : ∀ e ∈ x.e, valE 12 e = true
theorem brT_len {x : Bk} (h : FtOk x) : (brT x.b).length ≤ 910 := by
  have h1 := itoa_b x.b.n (by have := h.n; omega) (by have := h.n; omega)
  have h2 := wrdT_len x.b.w h.w
  have h3 := h.wl
  unfold brT
  simp only [List.length_append, List.length_cons, List.length_nil]
  omega
/-- Where a block's events come from. -/
theorem cl_ev {n : Int} {word : List Int} {o o' : List Bk} (h : clB n word o = some o') : ∀ x ∈ o', ∀ e ∈ x.e, ∃ y ∈ o, e ∈ y.e := by
  unfold clB at h
  split at h
  · cases h
  · split at h <;> injection h with h <;> subst h
    · exact fun x hx e he => ⟨x, hx, he⟩
    · intro x hx e he
      rcases List.mem_append.1 hx with h1 | h1
      · exact ⟨x, h1, he⟩
      · simp at h1; subst h1; simp at he
theorem add_ev {o : List Bk} {e : Ev} : ∀ x ∈ addE o e, ∀ f ∈ x.e, (∃ y ∈ o, f ∈ y.e) ∨ f = e := by
  intro x hx f hf
  obtain ⟨k, hk⟩ := List.getElem?_of_mem hx
  rw [addE_get] at hk
  split at hk
  · obtain ⟨y, hy, rfl⟩ := Option.map_eq_some_iff.1 hk
    rcases List.mem_append.1 hf with h | h
    · exact .inl ⟨y, List.mem_of_getElem? hy, h⟩
    · simp at h; exact .inr h
  · exact .inl ⟨x, List.mem_of_getElem? hk, hf⟩
theorem go_ev : ∀ {l : List Ev} {n : Int} {word : List Int} {o o' : List Bk}, bkGo n word o l = some o' → ∀ x ∈ o', ∀ e ∈ x.e, (∃ y ∈ o, e ∈ y.e) ∨ e ∈ l
  | [], n, word, o, o', h, x, hx, e, he => .inl (cl_ev h x hx e he)
  | a :: l, n, word, o, o', h, x, hx, e, he => by
    rw [bkGo] at h
    split at h
    · rcases go_ev h x hx e he with h1 | h1
      · exact .inl h1
      · exact .inr (List.mem_cons_of_mem _ h1)
    · split at h
      · cases h
      · rename_i o2 ho
        rcases go_ev h x hx e he with ⟨y, hy, hey⟩ | h1
        · rcases add_ev y hy e hey with ⟨z, hz, hez⟩ | h2
          · obtain ⟨u, hu, heu⟩ := cl_ev ho z hz e hez
            exact .inl ⟨u, hu, heu⟩
          · exact .inr (by rw [h2]; exact List.mem_cons_self)
        · exact .inr (List.mem_cons_of_mem _ h1)
theorem bks_ev {l : List Ev} {o : List Bk} (h : bkO l = some o) : ∀ x ∈ o, ∀ e ∈ x.e, e ∈ l := by
  unfold bkO at h
  cases hr : bkGo 0 [] [⟨⟨0, []⟩, []⟩] l with
  | none => rw [hr] at h; cases h
  | some o2 =>
    rw [hr] at h
    have h' : (if o2.length ≤ 60 then some o2 else none) = some o := h
    split at h'
    · injection h' with h'
      subst h'
      intro x hx e he
      rcases go_ev hr x hx e he with ⟨y, hy, hey⟩ | h1
      · simp at hy; subst hy; simp at hey
      · exact h1
    · cases h'
theorem ft_ok {l : List Ev} (h : okEvs l = true) (hc : bksC l = 0) : (∀ x ∈ bksL l, FtOk x) ∧ (bksL l).length ≤ 60 := by
  obtain ⟨h1, h2⟩ := good_of h hc
  refine ⟨fun x hx => ?_, h2⟩
  have hg := h1 x hx
  have hn1 := hg.n1
  refine ⟨⟨hg.n0, hg.n1⟩, fun y hy => ?_, hg.wl, hg.el, fun e he => ?_⟩
  · have := (hg.lets y hy).2
    omega
  · cases ho : bkO l with
    | none => rw [(bks_none ho).1] at hx; simp at hx
    | some o =>
      rw [(bks_some ho).1] at hx
      exact ok_val h e (bks_ev ho x hx e he)
theorem fab_no {l : List Ev} (h : bkoC l ≠ 0) : fabT (bkoL l) = [] := by
  cases hok : okEvs l
  · rw [(bko_no hok).1]; rfl
  · rw [(bko_yes hok).2] at h
    rw [(bko_yes hok).1, bksL_nil (by rcases bksC_cases l with h1 | h1; · exact absurd h1 h
                                      · exact h1)]
    rfl
theorem ev_facts {e : Ev} (h : valE 12 e = true) : (evT e).length ≤ 1000 := by
  have hf := val_facts h
  exact evT_len e ⟨by omega, by omega⟩ hf.2.2.1 ⟨by omega, by omega⟩

end Go.Proofs.YtccdnmafakaleaaGreatDoor

/-
  The builder of strings: what the program's texts ask of it (other blocks stand).
-/
namespace Go.Proofs.YtccdnmafakaleaaGreatDoor
set_option linter.unusedVariables false
set_option linter.unusedSimpArgs false
open Go.RowKit

abbrev SbF (B b : Nat) (l : List UInt8) (w : World) : Prop := Lib.IsBuilderF 51 5 B b (Lib.byteCells l) w
theorem sb_fresh (w : World) : SbF w.heap.size w.heap.size [] (w.alloc (.cells #[.pointer none, .slice none 0 0] 51)) := Lib.IsBuilderF.of (Lib.fresh_isBuilder _ _ w)
theorem SbF.below {B b : Nat} {l : List UInt8} {w w' : World} (h : SbF B b l w) (hb : Below w.heap.size w w') : SbF B b l w' := by
  have key : ∀ p, Lib.BuilderAtF 51 5 B b p (Lib.byteCells l) w → Lib.BuilderAtF 51 5 B b p (Lib.byteCells l) w' := by
    intro p h
    have hlt := h.lt
    obtain ⟨h1, v, h2, h3, h4⟩ := h
    refine ⟨h1, v, (hb.block b hlt).trans h2, ⟨h3.1, ?_⟩, h4⟩
    rcases h3.2 with h5 | ⟨g, cap, cur, fz, e1, e2, e3, e4⟩
    · exact .inl h5
    · exact .inr ⟨g, cap, cur, fz, e1, e2, (hb.block g (Array.getElem?_eq_some_iff.1 e3).1).trans e3, e4⟩
  rcases h with h | h
  · exact .inl (key _ h)
  · exact .inr (key _ h)
theorem SbF.lt {B b : Nat} {l : List UInt8} {w : World} (h : SbF B b l w) : b < w.heap.size := by
  rcases h with h | h
  · exact h.lt
  · exact h.lt
/-- What a line's writing leaves: the builder, and each block that is no row of bytes. -/
def SbW (B b : Nat) (l : List UInt8) (w : World) (e : Ending) (w' : World) : Prop :=
  (∃ v, e = .returned (.tuple #[v, .nilIface])) ∧ SbF B b l w' ∧ Below B w w' ∧ Lib.OthersKept 5 (some b) w w'
theorem sbWrite {B b : Nat} {l : List UInt8} {w : World} (s : ByteArray) (h : SbF B b l w) (hl : l.length + s.size ≤ 140737488355328) (hB : B ≤ w.heap.size) :
    Calls Tryz.prog 15 #[.pointer (some ⟨b, 0, none⟩), .string s] w (SbW B b (l ++ s.data.toList) w) := by
  refine (Any.Builder_WriteString_k { joinLay with } joinExtra B b _ s w h (by rw [Lib.byteCells_length]; exact hl) hB).mono ?_
  rintro e w' ⟨rfl, h2, hb, hk⟩
  refine ⟨⟨_, rfl⟩, .inr ?_, hb, hk⟩
  rw [Lib.byteCells_append, ← Lib.strCells_eq]
  exact h2
theorem sbString {B b : Nat} {l : List UInt8} {w : World} (h : SbF B b l w) (hB : B ≤ w.heap.size) :
    Calls Tryz.prog 18 #[.pointer (some ⟨b, 0, none⟩)] w fun e w' => e = .returned (strV l) ∧ Below B w w' :=
  (Any.Builder_String_any_k { joinLay with } joinExtra B b l w h hB).mono fun e w' ⟨h1, _, h2, _⟩ => ⟨h1, h2⟩
theorem sbLine {B b : Nat} {l : List UInt8} {w : World} (a : List UInt8) (h : SbF B b l w) (hl : l.length + a.length ≤ 140737488355000) (hB : B ≤ w.heap.size) :
    Calls Tryz.prog 15 #[.pointer (some ⟨b, 0, none⟩), .string ((⟨a.toArray⟩ : ByteArray) ++ ⟨#[10]⟩)] w (SbW B b (l ++ (a ++ [10])) w) := by
  have e : ((⟨a.toArray⟩ : ByteArray) ++ ⟨#[10]⟩) = ⟨(a ++ [10]).toArray⟩ := by
    rw [show (⟨#[10]⟩ : ByteArray) = ⟨[10].toArray⟩ from rfl, str_app]
  rw [e]
  exact sbWrite (⟨(a ++ [10]).toArray⟩ : ByteArray) h (by show l.length + (a ++ [10]).toArray.size ≤ _; simp; omega) hB
theorem sbHead {B b : Nat} {l : List UInt8} {w : World} (a : List UInt8) (h : SbF B b l w) (hl : l.length + a.length ≤ 140737488354000) (hB : B ≤ w.heap.size) :
    Calls Tryz.prog 15 #[.pointer (some ⟨b, 0, none⟩), .string (((⟨#[98, 114, 97, 105, 100, 32]⟩ : ByteArray) ++ ⟨a.toArray⟩) ++ ⟨#[10]⟩)] w (SbW B b (l ++ (([98, 114, 97, 105, 100, 32] ++ a) ++ [10])) w) := by
  have e : ((⟨#[98, 114, 97, 105, 100, 32]⟩ : ByteArray) ++ ⟨a.toArray⟩) = ⟨([98, 114, 97, 105, 100, 32] ++ a).toArray⟩ := by
    rw [show (⟨#[98, 114, 97, 105, 100, 32]⟩ : ByteArray) = ⟨[98, 114, 97, 105, 100, 32].toArray⟩ from rfl, str_app]
  rw [e]
  exact sbLine ([98, 114, 97, 105, 100, 32] ++ a) h (by simp; omega) hB

end Go.Proofs.YtccdnmafakaleaaGreatDoor

/-
  The text of a braid, of the program and of the reference.
-/
namespace Go.Proofs.YtccdnmafakaleaaGreatDoor
set_option linter.unusedVariables false
set_option linter.unusedSimpArgs false
open Go.RowKit

theorem rdI_at {w : World} {B : Nat} {A : Option Addr} {n c : Nat} {l : List Int} (h : RdI w B (.slice A n c) l) : ∀ k, k < n → ∃ b off x, A = some ⟨b, off, none⟩ ∧ b < B ∧ l[k]? = some x ∧ w.cell? ⟨b, off + k, none⟩ = some (.int .i64 x) := by
  obtain ⟨A', n', c', e, hm, hln, gl⟩ := h
  injection e with e1 e2 e3
  subst e1 e2 e3
  exact fun k hk => gl k hk
attribute [local go_sem] strV
set_option maxHeartbeats 8000000 in
set_option maxRecDepth 100000 in
theorem braidText_any (b : Br) (A : Option Addr) (c : Nat) (hn : 0 ≤ b.n ∧ b.n ≤ 12) (hw : ∀ y ∈ b.w, -1000 ≤ y ∧ y ≤ 1000) (hl : b.w.length ≤ 40) (B : Nat) (w : World) (hB : B ≤ w.heap.size) (ht : TabW B w) (hr : RdI w w.heap.size (.slice A b.w.length c) b.w) :
    Calls Tryz.prog 16 #[.agg #[.int .i64 b.n, .slice A b.w.length c]] w fun e w' => e = .returned (strV (brT b)) ∧ Below w.heap.size w w' := by
  have HD := Lib.hid (fun (n : Int) (h0 : -1000 ≤ n) (h1 : n ≤ 1000) (W : World) (hW : Below w.heap.size w W) => Decimal_any n (by omega) (by omega) B W (ht.on (hW.mono hB)))
  have hb0 := (Below.refl w.heap.size w).alloc (Nat.le_refl _) (.cells #[.int .i64 b.n, .slice A b.w.length c] 39)
  have HB0 := Lib.hid hb0
  have HR := Lib.hid (rdI_at hr)
  have HW := Lib.hid hw
  have HL0 := itoa_b b.n (by omega) (by omega)
  have HX := Lib.hid (box_cells (w := w) (us := [.int .i64 b.n, .slice A b.w.length c]) (t := 39))
  have HE := Lib.hid (show brT b = (Lib.itoa b.n ++ [58]) ++ wrdT (b.w.drop 0) from rfl)
  clear ht hB hr hb0 hw
  obtain ⟨bn, bw⟩ := b
  simp only at hn hl HL0 HE HX HB0 HR HW
  generalize hlen : bw.length = m at *
  have HLN := Lib.hid hlen
  generalize brT ⟨bn, bw⟩ = R at *
  clear hlen
  go_enter Tryz.func16, Tryz.ntmps16
  go_wp2_with (go_at_call 28; refine (HD.out bn (by omega) (by omega) _ HB0.out).mono ?_; rintro e w1 ⟨rfl, hb1⟩; have HB1 := Lib.hid (HB0.out.trans (hb1.mono HB0.out.size)); obtain ⟨x0, x1⟩ := (HX.out.below hb1 (by simp)).two)
  go_loopw [3, 13] (fun v3 v13 wr => ∃ (k : Nat) (acc : List UInt8) (wq : World), wq = wr ∧ v13 = .int .i64 (k : Int) ∧ k ≤ m ∧ v3 = strV acc ∧ acc.length ≤ 22 + 22 * k ∧ Hid (R = acc ++ wrdT (bw.drop k)) ∧ Hid (Below w.heap.size w wq)) (fun _ v13 _ => m - (intOf v13).toNat)
  case atStart => exact ⟨0, Lib.itoa bn ++ [58], _, rfl, rfl, Nat.zero_le _, by first | rfl | (unfold strV; congr 1; apply ByteArray.ext; simp; done), by simp; omega, HE.out, HB1.out⟩
  case round =>
    obtain ⟨k, acc, wq, hwq, rfl, hk, rfl, hal, HA, HB⟩ := hrel
    subst hwq
    by_cases hlt : k < m
    · obtain ⟨bb, off, x, rfl, hbb, hlk, hc⟩ := HR.out k hlt
      have c0 := (HB.out.cell (p := ⟨bb, off + k, none⟩) hbb).trans hc
      obtain ⟨hx0, hx1⟩ := HW.out x (List.mem_of_getElem? hlk)
      have hxl := itoa_b x (by omega) (by omega)
      have HA2 := Lib.hid (wrd_next HA.out hlk)
      clear hlk hc
      unfold strV
      go_wp2_with (go_at_call 28; refine (HD.out x (by omega) (by omega) _ HB.out).mono ?_; rintro e w4 ⟨rfl, hb4⟩; have HB4 := Lib.hid (HB.out.trans (hb4.mono HB.out.size)); unfold strV)
      exact ⟨⟨k + 1, acc ++ (32 :: Lib.itoa x), _, rfl, by go_num, by omega, by first | rfl | (unfold strV; congr 1; done) | (unfold strV; congr 1; apply ByteArray.ext; simp; done), by simp; omega, HA2.out, HB4.out⟩, by simp [intOf]; omega⟩
    · have HF : Hid (R = acc) := by
        unfold Hid
        rw [HA.out, List.drop_of_length_le (by have := HLN.out; omega)]
        simp [wrdT]
      unfold strV
      go_wp2
      go_ret
      exact ⟨by rw [HF.out]; rfl, HB.out⟩
attribute [local go_sem] strV
set_option maxHeartbeats 8000000 in
set_option maxRecDepth 100000 in
theorem l03Text_any (b : Br) (A : Option Addr) (c g o : Nat) (hn : 0 ≤ b.n ∧ b.n ≤ 12) (hw : ∀ y ∈ b.w, -1000 ≤ y ∧ y ≤ 1000) (hl : b.w.length ≤ 40) (w : World) (h0 : w.cell? ⟨g, o, none⟩ = some (.int .i64 b.n)) (h1 : w.cell? ⟨g, o + 1, none⟩ = some (.slice A b.w.length c)) (hr : RdI w w.heap.size (.slice A b.w.length c) b.w) :
    Calls Tryz.prog 11 #[.pointer (some ⟨g, o, none⟩)] w fun e w' => e = .returned (strV (brT b)) ∧ Below w.heap.size w w' := by
  have HD := Lib.hid (fun (n : Int) (h0 : -1000 ≤ n) (h1 : n ≤ 1000) (W : World) => l01Dec_any n (by omega) (by omega) W)
  have HR := Lib.hid (rdI_at hr)
  have HW := Lib.hid hw
  have hgl : g < w.heap.size := block_lt_of_cell h0
  have HC1 := Lib.hid h1
  have HL0 := itoa_b b.n (by omega) (by omega)
  have HE := Lib.hid (show brT b = (Lib.itoa b.n ++ [58]) ++ wrdT (b.w.drop 0) from rfl)
  clear hr hw
  obtain ⟨bn, bw⟩ := b
  simp only at hn hl HL0 HE HR HW h0 h1 HC1
  generalize hlen : bw.length = m at *
  have HLN := Lib.hid hlen
  generalize brT ⟨bn, bw⟩ = R at *
  clear hlen
  go_enter Tryz.func11, Tryz.ntmps11
  go_wp2_with (go_at_call 23; refine (HD.out bn (by omega) (by omega) _).mono ?_; rintro e w1 ⟨rfl, hb1⟩; have HB1 := Lib.hid hb1)
  clear h0 h1
  go_loopw [3, 4] (fun v3 v4 wr => ∃ (k : Nat) (acc : List UInt8) (wq : World), wq = wr ∧ v4 = .int .i64 (k : Int) ∧ k ≤ m ∧ v3 = strV acc ∧ acc.length ≤ 22 + 22 * k ∧ Hid (R = acc ++ wrdT (bw.drop k)) ∧ Hid (Below w.heap.size w wq)) (fun _ v4 _ => m - (intOf v4).toNat)
  case atStart => exact ⟨0, Lib.itoa bn ++ [58], _, rfl, rfl, Nat.zero_le _, by first | rfl | (unfold strV; congr 1; apply ByteArray.ext; simp; done), by simp; omega, HE.out, HB1.out⟩
  case round =>
    obtain ⟨k, acc, wq, hwq, rfl, hk, rfl, hal, HA, HB⟩ := hrel
    subst hwq
    have c1 := (HB.out.cell (p := ⟨g, o + 1, none⟩) hgl).trans HC1.out
    by_cases hlt : k < m
    · obtain ⟨bb, off, x, rfl, hbb, hlk, hc⟩ := HR.out k hlt
      have c0 := (HB.out.cell (p := ⟨bb, off + k, none⟩) hbb).trans hc
      obtain ⟨hx0, hx1⟩ := HW.out x (List.mem_of_getElem? hlk)
      have hxl := itoa_b x (by omega) (by omega)
      have HA2 := Lib.hid (wrd_next HA.out hlk)
      clear hlk hc
      unfold strV
      go_wp2_with (go_at_call 23; refine (HD.out x (by omega) (by omega) _).mono ?_; rintro e w4 ⟨rfl, hb4⟩; have HB4 := Lib.hid (HB.out.trans (hb4.mono HB.out.size)); unfold strV)
      exact ⟨⟨k + 1, acc ++ (32 :: Lib.itoa x), _, rfl, by go_num, by omega, by first | rfl | (unfold strV; congr 1; done) | (unfold strV; congr 1; apply ByteArray.ext; simp; done), by simp; omega, HA2.out, HB4.out⟩, by simp [intOf]; omega⟩
    · have HF : Hid (R = acc) := by
        unfold Hid
        rw [HA.out, List.drop_of_length_le (by have := HLN.out; omega)]
        simp [wrdT]
      unfold strV
      go_wp2
      go_ret
      exact ⟨by rw [HF.out]; rfl, HB.out⟩

end Go.Proofs.YtccdnmafakaleaaGreatDoor

/-
  The text of a fabric: FabricText of the program.
-/
namespace Go.Proofs.YtccdnmafakaleaaGreatDoor
set_option linter.unusedVariables false
set_option linter.unusedSimpArgs false
open Go.RowKit

theorem bko_ok {l : List Ev} (h : bkoC l = 0) : okEvs l = true ∧ bksC l = 0 ∧ bkoL l = bksL l := by
  have hok : okEvs l = true := by
    cases h1 : okEvs l
    · rw [(bko_no h1).2] at h; omega
    · rfl
  exact ⟨hok, by rw [← (bko_yes hok).2]; exact h, (bko_yes hok).1⟩
attribute [local go_sem] strV
set_option maxHeartbeats 16000000 in
set_option maxRecDepth 100000 in
theorem implFabric_any (v : Value) (l : List Ev) (w : World) (hl : RdE w w.heap.size v l) (ht : TabW w.heap.size w) :
    Calls Tryz.prog 7 #[v] w fun e w' => e = .returned (.tuple #[strV (fabT (bkoL l)), .int .i64 (bkoC l)]) ∧ Below w.heap.size w w' := by
  have HQ := Lib.hid (implBlocksOf_any v l w hl)
  have HT := Lib.hid ht
  obtain ⟨A, n0, c0, rfl, -⟩ := hl
  clear ht
  by_cases hc : bkoC l = 0
  · obtain ⟨hok, hbC, e1⟩ := bko_ok hc
    obtain ⟨hft, hlen⟩ := ft_ok hok hbC
    have HFT := Lib.hid hft
    have HC := Lib.hid hc
    have HE := Lib.hid (show fabT (bkoL l) = [] ++ fabT ((bksL l).drop 0) by rw [e1]; rfl)
    have HE1 := Lib.hid e1
    clear hft hok hbC e1 hc
    go_enter Tryz.func7, Tryz.ntmps7
    go_wp2_with fail
    refine HQ.out.mono ?_
    rintro e w1 ⟨v1, rfl, ho1, hb1⟩
    rw [HC.out]
    rw [HE1.out] at ho1
    have HO := Lib.hid ho1.rd
    have HB1 := Lib.hid hb1
    obtain ⟨A1, c1, rfl⟩ := ho1.shape
    have HTW := Lib.hid (fun (X : World) (h : Below w1.heap.size w1 X) => HT.out.on (hb1.trans (h.mono hb1.size)))
    have hww1 : w.heap.size ≤ w1.heap.size := hb1.size
    clear ho1 hb1 HQ HT
    generalize bksL l = O at *
    generalize hR : fabT (bkoL l) = R at *
    have HRR := Lib.hid hR
    generalize hn : O.length = n at *
    have HN := Lib.hid hn
    clear hR hn
    go_wp2
    go_loopw [22] (fun v22 wr => ∃ (k : Nat) (acc : List UInt8) (wq : World), wq = wr ∧ v22 = .int .i64 (k : Int) ∧ k ≤ n ∧ acc.length ≤ 2003000 * k ∧ Hid (R = acc ++ fabT (O.drop k)) ∧ Hid (SbF w1.heap.size w1.heap.size acc wq) ∧ Hid (Below w1.heap.size w1 wq)) (fun v22 _ => n - (intOf v22).toNat)
    case atStart => exact ⟨0, [], _, rfl, rfl, Nat.zero_le _, Nat.zero_le _, HE.out, sb_fresh _, (Below.refl _ _).alloc (Nat.le_refl _) _⟩
    case round =>
      obtain ⟨k, acc, wq, hwq, rfl, hk, hal, HA, HS, HB⟩ := hrel
      subst hwq
      have hzq : w1.heap.size < wq.heap.size := HS.out.lt
      by_cases hlt : k < n
      · obtain ⟨b, off, x, A0, cc0, Ae, ce, rfl, hbb, hlk, hcc, hrw, hre⟩ := HO.out.at2 hlt
        have hx := HFT.out x (List.mem_of_getElem? hlk)
        have hbl := brT_len hx
        have HX := Lib.hid hx
        have HA2 := Lib.hid (fab_next HA.out hlk)
        have HRW := Lib.hid hrw
        have HRE := Lib.hid hre
        obtain ⟨q0, q1, q2⟩ := (hcc.below HB.out hbb).three
        have hel := hx.el
        have hbl1 : 6 + (brT x.b).length ≤ 9223372036854775807 := by omega
        have hbl2 : 6 + (brT x.b).length + 1 ≤ 9223372036854775807 := by omega
        clear hlk hcc hrw hre hx
        have HBX : Hid ((wq.alloc (.cells #[.int .i64 x.b.n, .slice A0 x.b.w.length cc0, .slice Ae x.e.length ce] 41)).heap[wq.heap.size]? = some (.cells #[.int .i64 x.b.n, .slice A0 x.b.w.length cc0, .slice Ae x.e.length ce] 41 (0, 0))) := heap_alloc_new wq _
        have HBA := Lib.hid ((Below.refl wq.heap.size wq).alloc (Nat.le_refl _) (.cells #[.int .i64 x.b.n, .slice A0 x.b.w.length cc0, .slice Ae x.e.length ce] 41))
        have hszA : wq.heap.size < (wq.alloc (.cells #[.int .i64 x.b.n, .slice A0 x.b.w.length cc0, .slice Ae x.e.length ce] 41)).heap.size := by simp
        go_upto_region 8 with fail
        generalize wq.alloc (.cells #[.int .i64 x.b.n, .slice A0 x.b.w.length cc0, .slice Ae x.e.length ce] 41) = wA at *
        clear q0 q1 q2
        have y0 : wA.cell? ⟨wq.heap.size, 0, none⟩ = some (.int .i64 x.b.n) := by rw [Lib.cell_of_heap HBX.out]; rfl
        have y1 : wA.cell? ⟨wq.heap.size, 1, none⟩ = some (.slice A0 x.b.w.length cc0) := by rw [Lib.cell_of_heap HBX.out]; rfl
        go_wp2_with (go_at_call 16; refine (braidText_any x.b A0 cc0 HX.out.n HX.out.w HX.out.wl w.heap.size _ (by omega) (HTW.out _ (HB.out.trans (HBA.out.mono (by omega)))) ((HRW.out.below (HB.out.trans (HBA.out.mono (by omega)))).more (by omega))).mono ?_; rintro e w3 ⟨rfl, hb3⟩)
        have HX3 := Lib.hid ((hb3.block wq.heap.size hszA).trans HBX.out)
        have HB3 := Lib.hid (HBA.out.trans (hb3.mono (Nat.le_of_lt hszA)))
        have HS3 := Lib.hid (HS.out.below HB3.out)
        have hz3 : wq.heap.size < w3.heap.size := Nat.lt_of_lt_of_le hszA hb3.size
        clear y0 y1 hb3
        go_wp2_with (go_at_call 15; refine (sbHead (brT x.b) HS3.out (by omega) (by omega)).mono ?_; rintro e w4 ⟨⟨vw, rfl⟩, hs4, hb4, hk4⟩; have hx4 := hk4 _ _ HX3.out (by intro h; injection h with h; omega) (by intro c fz h; injection h with h1 h2; exact absurd h2 (by decide)); have y2 : w4.cell? ⟨wq.heap.size, 2, none⟩ = some (.slice Ae x.e.length ce) := (by rw [Lib.cell_of_heap hx4]; rfl))
        have HS4 := Lib.hid hs4
        have HB4 := Lib.hid (HB.out.trans ((HB3.out.mono (Nat.le_of_lt hzq)).trans hb4))
        clear hs4 hb4 hk4 hx4 y2
        go_loopw [35] (fun v35 wr => ∃ (j : Nat) (acc2 : List UInt8) (wj : World), wj = wr ∧ v35 = .int .i64 (j : Int) ∧ j ≤ x.e.length ∧ acc2.length ≤ 2003000 * k + 920 + 1001 * j ∧ Hid (R = acc2 ++ (esT (x.e.drop j) ++ fabT (O.drop (k + 1)))) ∧ Hid (SbF w1.heap.size w1.heap.size acc2 wj) ∧ Hid (Below w1.heap.size w1 wj)) (fun v35 _ => x.e.length - (intOf v35).toNat)
        case atStart => exact ⟨0, _, _, rfl, rfl, Nat.zero_le _, by have h6 : hdT.length = 6 := rfl; simp; omega, HA2.out, HS4.out, HB4.out⟩
        case round =>
          obtain ⟨j, acc2, wj, hwj, rfl, hj, hal2, HA3, HSj, HBj⟩ := hrel
          subst hwj
          have hzj : w1.heap.size < wj.heap.size := HSj.out.lt
          by_cases hjl : j < x.e.length
          · obtain ⟨be, oe, ev, rfl, hbe, hle, hce⟩ := (HRE.out.below HBj.out).at_ hjl
            have hv := HX.out.ev ev (List.mem_of_getElem? hle)
            obtain ⟨⟨f1, f2⟩, f3, f4, f5, f6, f7⟩ := val_facts hv
            have hevl := ev_facts hv
            have HA4 := Lib.hid (es_next HA3.out hle)
            obtain ⟨c0, c1', c2, c3, c4, c5⟩ := hce.six
            obtain ⟨ek, ep, ec, eb, ey, ed⟩ := ev
            simp only at f1 f2 f3 f4 f5 f6 f7 c0 c1' c2 c3 c4 c5
            obtain ⟨kn, rfl⟩ : ∃ kn : Nat, ek = (kn : Int) := ⟨ek.toNat, by omega⟩
            have HBA5 := Lib.hid ((Below.refl wj.heap.size wj).alloc (Nat.le_refl _) (.cells #[.int .i64 (kn : Int), .int .i64 ep, .int .i64 ec, .int .i64 eb, .int .i64 ey, .int .i64 ed] 45))
            have F6 := Lib.hid f6
            have F7 := Lib.hid f7
            have HET := Lib.hid (fun (X : World) (hX : Below w1.heap.size w1 X) => eventText_any kn ep ec eb ey ed (by omega) (by omega) f3 f4 f5 F6 F7 X (Lib.tabBelow_of_tabIs (HTW.out X hX).here))
            have hev1 : (evT ⟨kn, ep, ec, eb, ey, ed⟩).length + 1 ≤ 9223372036854775807 := by omega
            have hev2 : (evT ⟨kn, ep, ec, eb, ey, ed⟩).length ≤ 9223372036854775806 := by omega
            clear hle hce hv f3 f4 f5 f6 f7
            generalize hET : evT ⟨kn, ep, ec, eb, ey, ed⟩ = tx at *
            clear hET
            go_wp2_with (go_at_call 17; refine (HET.out _ (HBj.out.trans (HBA5.out.mono (Nat.le_of_lt hzj)))).mono ?_; rintro e w5 ⟨rfl, hb5⟩)
            have HB5 := Lib.hid (HBA5.out.trans (hb5.mono HBA5.out.size))
            have HS5 := Lib.hid (HSj.out.below HB5.out)
            have hz5 : w1.heap.size < w5.heap.size := HS5.out.lt
            clear hb5 c0 c1' c2 c3 c4 c5
            go_wp2_with (go_at_call 15; refine (sbLine tx HS5.out (by omega) (Nat.le_of_lt hz5)).mono ?_; rintro e w6 ⟨⟨vw6, rfl⟩, hs6, hb6, -⟩)
            exact ⟨⟨j + 1, acc2 ++ (tx ++ [10]), _, rfl, by go_num, by omega, by simp; omega, HA4.out, hs6, HBj.out.trans ((HB5.out.mono (Nat.le_of_lt hzj)).trans hb6)⟩, by simp [intOf]; omega⟩
          · have HF : Hid (R = acc2 ++ fabT (O.drop (k + 1))) := by
              unfold Hid
              rw [HA3.out, List.drop_of_length_le (by omega)]
              simp [esT]
            go_wp2
            exact ⟨⟨k + 1, acc2, _, rfl, by go_num, by omega, by omega, HF.out, HSj.out, HBj.out⟩, by simp [intOf]; omega⟩
      · have HF : Hid (R = acc) := by
          unfold Hid
          rw [HA.out, List.drop_of_length_le (by have := HN.out; omega)]
          simp [fabT]
        have HBW := Lib.hid (HB1.out.trans (HB.out.mono hww1))
        go_wp2_with (go_at_call 18; refine (sbString HS.out (Nat.le_of_lt hzq)).mono ?_; rintro e w4 ⟨rfl, hb4⟩)
        go_ret2
        exact ⟨by rw [HRR.out, HF.out, HC.out]; rfl, HBW.out.trans (hb4.mono hww1)⟩
  · have HN := Lib.hid (fab_no hc)
    have hc' : (bkoC l != 0) = true := by simpa using hc
    clear hc
    go_enter Tryz.func7, Tryz.ntmps7
    go_wp2_with fail
    refine HQ.out.mono ?_
    rintro e w1 ⟨v1, rfl, ho1, hb1⟩
    have HB1 := Lib.hid hb1
    obtain ⟨A1, c1, rfl⟩ := ho1.shape
    clear ho1 hb1 HQ
    go_wp2
    go_ret2
    exact ⟨by rw [HN.out]; rfl, HB1.out⟩

end Go.Proofs.YtccdnmafakaleaaGreatDoor

/-
  The text of a fabric: FabricText of the reference.
-/
namespace Go.Proofs.YtccdnmafakaleaaGreatDoor
set_option linter.unusedVariables false
set_option linter.unusedSimpArgs false
open Go.RowKit

attribute [local go_sem] strV
set_option maxHeartbeats 16000000 in
set_option maxRecDepth 100000 in
theorem specFabric_any (v : Value) (l : List Ev) (w : World) (hl : RdE w w.heap.size v l) :
    Calls Tryz.prog 5 #[v] w fun e w' => e = .returned (.tuple #[strV (fabT (bkoL l)), .int .i64 (bkoC l)]) ∧ Below w.heap.size w w' := by
  have HL := Lib.hid hl
  obtain ⟨A, n0, c0, rfl, -⟩ := hl
  cases hok : okEvs l
  · have HO := Lib.hid hok
    have HC := Lib.hid (bko_no hok)
    clear hok
    go_enter Tryz.func5, Tryz.ntmps5
    go_wp2_with fail
    refine (l10Count_any _ l _ _ HL.out (Nat.le_refl _)).mono ?_
    rintro e w1 ⟨rfl, hb1⟩
    rw [HO.out]
    have HB := Lib.hid hb1
    clear hb1
    go_wp2
    go_ret2
    exact ⟨by rw [HC.out.1, HC.out.2]; rfl, HB.out⟩
  have HO := Lib.hid hok
  have HC := Lib.hid (bko_yes hok)
  rcases bksC_cases l with hc | hc
  · obtain ⟨hft, hlen⟩ := ft_ok hok hc
    have HFT := Lib.hid hft
    have HCC := Lib.hid hc
    have HE := Lib.hid (show fabT (bkoL l) = [] ++ fabT ((bksL l).drop 0) by rw [HC.out.1]; rfl)
    have HRC := Lib.hid (show bkoC l = 0 by rw [HC.out.2, hc])
    clear hft hc hok
    go_enter Tryz.func5, Tryz.ntmps5
    go_wp2_with fail
    refine (l10Count_any _ l _ _ HL.out (Nat.le_refl _)).mono ?_
    rintro e w0 ⟨rfl, hb0⟩
    rw [HO.out]
    have HB0 := Lib.hid hb0
    have hsz0 : w.heap.size ≤ w0.heap.size := hb0.size
    clear hb0
    go_wp2_with fail
    refine (l13Blocks_any _ l _ (RdS.more (HL.out.below HB0.out) HB0.out.size) HO.out).mono ?_
    rintro e w1 ⟨v1, rfl, ho1, hb1⟩
    rw [HCC.out]
    have HOB := Lib.hid ho1.rd
    have HB1 := Lib.hid (HB0.out.trans (hb1.mono HB0.out.size))
    obtain ⟨A1, c1, rfl⟩ := ho1.shape
    clear ho1 hb1
    generalize bksL l = O at *
    generalize hR : fabT (bkoL l) = R at *
    have HRR := Lib.hid hR
    generalize hn : O.length = n at *
    have HN := Lib.hid hn
    clear hR hn
    go_wp2
    go_loopw [8, 9] (fun v8 v9 wr => ∃ (k : Nat) (acc : List UInt8) (wq : World), wq = wr ∧ v9 = .int .i64 (k : Int) ∧ k ≤ n ∧ v8 = .string ⟨acc.toArray⟩ ∧ acc.length ≤ 2003000 * k ∧ Hid (R = acc ++ fabT (O.drop k)) ∧ Hid (Below w1.heap.size w1 wq)) (fun _ v9 _ => n - (intOf v9).toNat)
    case atStart => exact ⟨0, [], _, rfl, rfl, Nat.zero_le _, rfl, Nat.zero_le _, HE.out, Below.refl _ _⟩
    case round =>
      obtain ⟨k, acc, wq, hwq, rfl, hk, rfl, hal, HA, HB⟩ := hrel
      subst hwq
      by_cases hlt : k < n
      · obtain ⟨b, off, x, A0, cc0, Ae, ce, rfl, hbb, hlk, hcc, hrw, hre⟩ := HOB.out.at2 hlt
        have hx := HFT.out x (List.mem_of_getElem? hlk)
        have hbl := brT_len hx
        have HX := Lib.hid hx
        have HA2 := Lib.hid (fab_next HA.out hlk)
        have HRE := Lib.hid hre
        have HCC3 := Lib.hid hcc
        obtain ⟨q0, q1, q2⟩ := (hcc.below HB.out hbb).three
        have hel := hx.el
        have HLT := Lib.hid (l03Text_any x.b A0 cc0 b (off + k * 3) hx.n hx.w hx.wl wq q0 q1 ((hrw.below HB.out).more HB.out.size))
        have hbl1 : 6 + (brT x.b).length ≤ 9223372036854775807 := by omega
        have hbl2 : 6 + (brT x.b).length + 1 ≤ 9223372036854775807 := by omega
        have hbl3 : acc.length + (6 + (brT x.b).length + 1) ≤ 9223372036854775807 := by omega
        clear hlk hcc hrw hre hx q0 q1 q2
        generalize hBT : brT x.b = bt at *
        clear hBT
        go_wp2_with (go_at_call 11; refine HLT.out.mono ?_; rintro e w3 ⟨rfl, hb3⟩)
        have HB3 := Lib.hid (HB.out.trans (hb3.mono HB.out.size))
        clear hb3 HLT
        go_loopw [8, 10] (fun v8 v10 wr => ∃ (j : Nat) (acc2 : List UInt8) (wj : World), wj = wr ∧ v10 = .int .i64 (j : Int) ∧ j ≤ x.e.length ∧ v8 = .string ⟨acc2.toArray⟩ ∧ acc2.length ≤ 2003000 * k + 920 + 1001 * j ∧ Hid (R = acc2 ++ (esT (x.e.drop j) ++ fabT (O.drop (k + 1)))) ∧ Hid (Below w1.heap.size w1 wj)) (fun _ v10 _ => x.e.length - (intOf v10).toNat)
        case atStart => exact ⟨0, acc ++ ((hdT ++ bt) ++ [10]), _, rfl, rfl, Nat.zero_le _, by first | rfl | (congr 1; apply ByteArray.ext; simp [hdT]; done), by simp [hdT]; omega, HA2.out, HB3.out⟩
        case round =>
          obtain ⟨j, acc2, wj, hwj, rfl, hj, rfl, hal2, HA3, HBj⟩ := hrel
          subst hwj
          obtain ⟨q0, q1, q2⟩ := (HCC3.out.below HBj.out hbb).three
          by_cases hjl : j < x.e.length
          · obtain ⟨be, oe, ev, rfl, hbe, hle, hce⟩ := (HRE.out.below HBj.out).at_ hjl
            have hv := HX.out.ev ev (List.mem_of_getElem? hle)
            obtain ⟨⟨f1, f2⟩, f3, f4, f5, f6, f7⟩ := val_facts hv
            have hevl := ev_facts hv
            have HA4 := Lib.hid (es_next HA3.out hle)
            obtain ⟨ek, ep, ec, eb, ey, ed⟩ := ev
            simp only at f1 f2 f3 f4 f5 f6 f7
            obtain ⟨kn, rfl⟩ : ∃ kn : Nat, ek = (kn : Int) := ⟨ek.toNat, by omega⟩
            have F7 := Lib.hid f7
            have HET := Lib.hid (l10Text_any kn ep ec eb ey ed (by omega) (by omega) f3 f4 ⟨by omega, by omega⟩ F7 be (oe + j * 6) wj hce)
            have hev1 : (evT ⟨kn, ep, ec, eb, ey, ed⟩).length + 1 ≤ 9223372036854775807 := by omega
            have hev2 : acc2.length + ((evT ⟨kn, ep, ec, eb, ey, ed⟩).length + 1) ≤ 9223372036854775807 := by omega
            clear hle hce hv f3 f4 f5 f6 f7
            generalize hET : evT ⟨kn, ep, ec, eb, ey, ed⟩ = tx at *
            clear hET
            go_wp2_with (go_at_call 12; refine HET.out.mono ?_; rintro e w5 ⟨rfl, hb5⟩)
            exact ⟨⟨j + 1, acc2 ++ (tx ++ [10]), _, rfl, by go_num, by omega, by first | rfl | (congr 1; apply ByteArray.ext; simp; done), by simp; omega, HA4.out, HBj.out.trans (hb5.mono HBj.out.size)⟩, by simp [intOf]; omega⟩
          · have HF : Hid (R = acc2 ++ fabT (O.drop (k + 1))) := by
              unfold Hid
              rw [HA3.out, List.drop_of_length_le (by omega)]
              simp [esT]
            go_wp2
            exact ⟨⟨k + 1, acc2, _, rfl, by go_num, by omega, rfl, by omega, HF.out, HBj.out⟩, by simp [intOf]; omega⟩
      · have HF : Hid (R = acc) := by
          unfold Hid
          rw [HA.out, List.drop_of_length_le (by have := HN.out; omega)]
          simp [fabT]
        have HBW := Lib.hid (HB1.out.trans (HB.out.mono HB1.out.size))
        go_wp2
        go_ret2
        exact ⟨by rw [HRR.out, HF.out, HRC.out]; rfl, HBW.out⟩
  · have HN := Lib.hid (show fabT (bkoL l) = [] by rw [HC.out.1, bksL_nil hc]; rfl)
    have HRC := Lib.hid (show bkoC l = 5 by rw [HC.out.2, hc])
    have HCC := Lib.hid hc
    clear hc hok
    go_enter Tryz.func5, Tryz.ntmps5
    go_wp2_with fail
    refine (l10Count_any _ l _ _ HL.out (Nat.le_refl _)).mono ?_
    rintro e w0 ⟨rfl, hb0⟩
    rw [HO.out]
    have HB0 := Lib.hid hb0
    clear hb0
    go_wp2_with fail
    refine (l13Blocks_any _ l _ (RdS.more (HL.out.below HB0.out) HB0.out.size) HO.out).mono ?_
    rintro e w1 ⟨v1, rfl, ho1, hb1⟩
    rw [HCC.out]
    have HB1 := Lib.hid (HB0.out.trans (hb1.mono HB0.out.size))
    obtain ⟨A1, c1, rfl⟩ := ho1.shape
    clear ho1 hb1
    go_wp2
    go_ret2
    exact ⟨by rw [HN.out, HRC.out]; rfl, HB1.out⟩

end Go.Proofs.YtccdnmafakaleaaGreatDoor
