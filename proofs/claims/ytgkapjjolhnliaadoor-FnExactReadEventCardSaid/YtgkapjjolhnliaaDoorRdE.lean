/-
  The program's SplitWords: strings.Split and slices.DeleteFunc.
-/
import Derived.Test.YtgkapjjolhnliaaDoorRdD
import Derived.Test.YtgkapjjolhnliaaDoorRdS
import Derived.Test.YtgkapjjolhnliaaDoorRdQ
import Derived.Shelf.SlicesE.DeleteFunc
import Derived.Shelf.SlicesG.Turned
import Derived.Shelf.SlGeneric
import Derived.Ground.SlgfProg
import Derived.Ground.SlgnProg
import Derived.Lib.OwnBridge
namespace Go.Proofs.YtgkapjjolhnliaaDoor
set_option linter.unusedVariables false
set_option linter.unusedSimpArgs false
open Go.RowKit Go.Shelf

shelf_lay_g SlLaysH.n10 Slgf 10 at Tryd 30 as delLay
shelf_lay_g SlLaysN.n30 Slgn 30 at Tryd 19 as idxLay
theorem strV_back (s : ByteArray) : strV s.data.toList = .string s := rfl
theorem split_cells (s : ByteArray) : (Lib.splitB ⟨#[32]⟩ 0 (Lib.countB s ⟨#[32]⟩) s).map Value.string = (splA 32 [] s.data.toList).map strV := by
  rw [← splitB_spl, List.map_map]
  rfl
theorem split_len (s : ByteArray) : Lib.countB s ⟨#[32]⟩ + 1 = (splA 32 [] s.data.toList).length := by
  rw [← splitB_spl, List.length_map, Lib.splitB_all _ (by decide) 0 _ s rfl]
attribute [local go_sem] strV
set_option maxHeartbeats 1000000 in
theorem isEmpty_any (x : List UInt8) (W : World) : FnGives Tryd.prog 32 #[] #[strV x] (.bool x.isEmpty) W := by
  show Calls Tryd.prog 32 #[.string ⟨x.toArray⟩] W _
  go_enter Tryd.func32, Tryd.ntmps32
  go_wp2
  go_ret
  exact ⟨by simp, 0, rfl⟩
/-- What SplitWords answers. -/
def WordsC (ws : List (List UInt8)) (w : World) (e : Ending) (w' : World) : Prop :=
  ∃ g cap, e = .returned (.slice (some ⟨g, 0, none⟩) ws.length cap) ∧ w.heap.size ≤ g ∧ ws.length ≤ cap ∧ cap ≤ 9223372036854775807 ∧ (∀ (j : Nat) (x : List UInt8), ws[j]? = some x → w'.cell? ⟨g, j, none⟩ = some (strV x)) ∧ Below w.heap.size w w'
set_option maxHeartbeats 4000000 in
set_option maxRecDepth 100000 in
theorem SplitWords_any (s : ByteArray) (hs : s.size ≤ 1048576) (B : Nat) (w : World) (hL : LibW B w) : Calls Tryd.prog 18 #[.string s] w (WordsC (fW s.data.toList) w) := by
  obtain ⟨-, m, hm⟩ := hL.mx
  have hc := Any.strings_Split { splitLay with } splitLay.i9 s ⟨#[32]⟩ m w (by omega) hm (by decide)
  rw [split_cells, split_len] at hc
  have hz : (splA 32 [] s.data.toList).length ≤ 1048577 := by
    have := Lib.countB_le ⟨#[32]⟩ (by decide) s.size s (Nat.le_refl _)
    rw [← split_len]
    omega
  have hf : fW s.data.toList = (splA 32 [] s.data.toList).filter (fun l => !l.isEmpty) := rfl
  generalize hW : splA 32 [] s.data.toList = W at *
  have hown : (w.alloc (.cells (W.map strV).toArray 9)).ownsRow w.heap.size 9 1 (.slice (some ⟨w.heap.size, 0, none⟩) W.length W.length) W.length (W.map strV) :=
    World.ownsRow_lit w (W.map strV).toArray W.length (Nat.le_refl _) (by unfold maxLen; omega) (by simp)
  obtain ⟨g, cap, e9, -, hg, hn, hcap, -, hH⟩ := Lib.holds_of_ownsRow hown (by simp)
  injection e9 with e1 _ e3
  injection e1 with e1
  injection e1 with e1
  subst e1 e3
  have eg : ∀ args w, (callFunc 32 args).run Tryd.prog w = .ok (.enter 32 args) w := enters_of Tryd.func32 (by kernel_rfl) rfl
  have hd := AnyE.slices_DeleteFunc delLay strV (fun _ => rfl) List.isEmpty 32 #[] eg [] (fun w => splitLay.v9 w) w.heap.size 0 W.length W.toArray (w.alloc (.cells (W.map strV).toArray 9))
    (fun W' x _ => isEmpty_any x W') (fun n os dk x _ => isEmpty_any x _) hH (by simp; omega) (by simp)
  rw [List.size_toArray, List.toList_toArray, ← hf] at hd
  have hk : (fW s.data.toList).length ≤ W.length := by rw [hf]; exact List.length_filter_le _ _
  have HO := Lib.hid hown
  generalize fW s.data.toList = F at *
  have HB : Hid (Below w.heap.size w (w.alloc (.cells (W.map strV).toArray 9))) := (Below.refl _ _).alloc (Nat.le_refl _) _
  clear hown hH hm hf hW
  go_enter Tryd.func18, Tryd.ntmps18
  go_wp2_with (first
    | (go_at_call 31; refine hc.mono ?_; rintro e w1 ⟨rfl, rfl⟩)
    | (go_at_call 30; refine hd.mono ?_; rintro e w2 ⟨rfl, q, rfl⟩))
  go_ret
  have hO2 := Lib.ownsRow_putRow (q := q) (ys := F ++ List.replicate (W.length - F.length) []) (k := F.length) HO.out (by simp; omega) hk
  rw [List.take_left' rfl] at hO2
  refine ⟨_, _, rfl, Nat.le_refl _, hk, by omega, fun j x hx => ?_, Lib.below_putRow HB.out (Nat.le_refl _)⟩
  have h9 := hO2.cells (g := w.heap.size) rfl j (strV x) (by simp [hx])
  have e : (⟨w.heap.size, 0, none⟩ : Addr).add j = ⟨w.heap.size, j, none⟩ := by unfold Addr.add; split <;> simp_all
  rw [e] at h9
  exact h9

end Go.Proofs.YtgkapjjolhnliaaDoor
