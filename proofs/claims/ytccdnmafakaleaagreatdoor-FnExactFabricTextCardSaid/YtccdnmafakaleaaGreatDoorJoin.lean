/-
  A row of words that grows, and is joined.
-/
import Derived.Test.YtccdnmafakaleaaGreatDoorStrs
import Derived.Test.YtccdnmafakaleaaGreatDoorDecI
import Derived.OwnWalk
import Derived.BigCall
namespace Go.Proofs.YtccdnmafakaleaaGreatDoor
set_option linter.unusedVariables false
set_option linter.unusedSimpArgs false
open Go.RowKit

/-- Where eventText stands: its row of words, besides its box. -/
structure TxW (w1 wx : World) (B : Nat) (v : Value) (l : List (List UInt8)) : Prop where
  own : wx.ownsRow B 9 1 v l.length (sC l)
  below : Below B w1 wx
  sz : B ≤ w1.heap.size
theorem TxW.lit {w1 wx : World} {B : Nat} (l : List (List UInt8)) (hb : Below B w1 wx) (hz : B ≤ w1.heap.size) (hl : l.length ≤ 16) : TxW w1 (wx.alloc (.cells (sC l).toArray 9)) B (.slice (some ⟨wx.heap.size, 0, none⟩) l.length l.length) l :=
  ⟨World.ownsRow_lit wx (sC l).toArray l.length (by have := hb.size; omega) (by unfold maxLen; omega) (by simp [sC]), hb.alloc (by have := hb.size; omega) _, hz⟩
theorem TxW.on {w1 wx wy : World} {B : Nat} {v : Value} {l : List (List UInt8)} (h : TxW w1 wx B v l) (hb : Below wx.heap.size wx wy) : TxW w1 wy B v l :=
  ⟨own_below h.own hb, h.below.trans (hb.mono (by have := h.below.size; have := h.sz; omega)), h.sz⟩
theorem TxW.app {w1 wx w5 : World} {B : Nat} {v v' : Value} {l : List (List UInt8)} {o : Obj} (x : List UInt8) (h : TxW w1 wx B v l) (hown : w5.ownsRow B 9 1 v' (l.length + 1) (sC l ++ sC [x])) (hg : (wx.alloc o).grownBy w5 v.ownBlock) : TxW w1 w5 B v' (l ++ [x]) :=
  ⟨by rw [sC_app, List.length_append]; exact hown, below_append h.below (by have := h.below.size; have := h.sz; omega) h.own hg, h.sz⟩
theorem join_any {w1 wx : World} {B : Nat} {v : Value} {l : List (List UInt8)} (h : TxW w1 wx B v l) (h0 : l.length ≠ 0) (h1 : l.length ≤ 16) (hj : (Lib.join l [32]).length ≤ 1000) :
    Calls Tryz.prog 30 #[v, .string ⟨#[32]⟩] wx fun e w' => e = .returned (strV (Lib.join l [32])) ∧ Below wx.heap.size wx w' := by
  rcases h.own.2 with ⟨-, h9⟩ | ⟨g, cap, cur, rfl, hB, hb, h1', h2, h3, h4⟩
  · exact absurd h9 h0
  have hm : (l.map fun x => (⟨x.toArray⟩ : ByteArray)).map (·.data.toList) = l := by simp [Function.comp_def]
  have hc := Any.strings_Join joinLay joinExtra g 0 cap (l.map fun x => (⟨x.toArray⟩ : ByteArray)) ⟨#[32]⟩ wx (fun j x hx => by
    rw [List.getElem?_map] at hx
    obtain ⟨y, hy, rfl⟩ := Option.map_eq_some_iff.1 hx
    have := h.own.cells (g := g) rfl j (strV y) (by simp [sC, hy])
    have e : (⟨g, 0, none⟩ : Addr).add j = ⟨g, 0 + j, none⟩ := by unfold Addr.add; split <;> simp_all
    rw [e] at this
    exact this) (Array.getElem?_eq_some_iff.1 hb).1 (by simp; omega) (by simp; omega) (by rw [hm]; exact Nat.le_trans hj (by omega))
  rw [hm, List.length_map] at hc
  exact hc

end Go.Proofs.YtccdnmafakaleaaGreatDoor
