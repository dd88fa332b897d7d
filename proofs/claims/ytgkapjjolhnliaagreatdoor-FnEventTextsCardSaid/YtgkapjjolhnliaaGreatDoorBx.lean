/-
  A box: a block of the call's own whose cells are stored into one by one.
-/
import Derived.Test.YtgkapjjolhnliaaGreatDoorSrc
namespace Go.Proofs.YtgkapjjolhnliaaGreatDoor
set_option linter.unusedVariables false
set_option linter.unusedSimpArgs false
open Go.RowKit

theorem keep_cells {w w' : World} {g b : Nat} (h : Only g (g + 1) w w') (hb : b < w.heap.size) (hg : b ≠ g) : (∀ o, w'.cell? ⟨b, o, none⟩ = w.cell? ⟨b, o, none⟩) ∧ ∀ o, w'.frozen? ⟨b, o, none⟩ = w.frozen? ⟨b, o, none⟩ :=
  ⟨fun o => World.cell?_of_block (a := ⟨b, o, none⟩) (h.block b hb (by omega)), fun o => World.frozen?_of_block (a := ⟨b, o, none⟩) (h.block b hb (by omega))⟩
theorem Bx.only {w w' : World} {g gs : Nat} {us : List Value} (h : Bx w g us) (ho : Only gs (gs + 1) w w') (hg : g ≠ gs) : Bx w' g us := h.keep (ho.block g h.2.2 (by omega)) ho.size
theorem Src.setNew {w : World} {g : Nat} {K : Int} (h : Src w g K) {b : Nat} (hp : g < b) (i : Nat) (u : Value) : Src (w.setCell ⟨b, i, none⟩ u) g K := h.keep fun k hk => Below.heap_setCell _ _ _ _ (by show k ≠ b; omega)
theorem Only.setNew {a w : World} {lo hi : Nat} (h : Only lo hi a w) {b : Nat} (hp : a.heap.size ≤ b) (i : Nat) (u : Value) : Only lo hi a (w.setCell ⟨b, i, none⟩ u) :=
  ⟨h.os, h.tape, h.output, by simp; exact h.size, fun k hk h' => by rw [Below.heap_setCell _ _ _ _ (by show k ≠ b; omega)]; exact h.block k hk h'⟩
theorem Src.drew {w : World} {g : Nat} {K : Int} (h : Src w g K) : Src w.drew g K := h
theorem Src.alloc {w : World} {g : Nat} {K : Int} (h : Src w g K) (o : Obj) : Src (w.alloc o) g K := h.below ((Below.refl w.heap.size w).alloc (Nat.le_refl _) o) h.lt
abbrev set8 (w : World) (g : Nat) (u0 u1 u2 u3 u4 u5 u6 u7 : Value) : World := ((((((((w.setCell ⟨g, 0, none⟩ u0).setCell ⟨g, 1, none⟩ u1).setCell ⟨g, 2, none⟩ u2).setCell ⟨g, 3, none⟩ u3).setCell ⟨g, 4, none⟩ u4).setCell ⟨g, 5, none⟩ u5).setCell ⟨g, 6, none⟩ u6).setCell ⟨g, 7, none⟩ u7)
theorem Bx.set8 {w : World} {g : Nat} {z0 z1 z2 z3 z4 z5 z6 z7 : Value} (h : Bx w g [z0, z1, z2, z3, z4, z5, z6, z7]) (u0 u1 u2 u3 u4 u5 u6 u7 : Value) : Bx (set8 w g u0 u1 u2 u3 u4 u5 u6 u7) g [u0, u1, u2, u3, u4, u5, u6, u7] :=
  (((((((h.set (i := 0) (by simp) u0).set (i := 1) (by simp) u1).set (i := 2) (by simp) u2).set (i := 3) (by simp) u3).set (i := 4) (by simp) u4).set (i := 5) (by simp) u5).set (i := 6) (by simp) u6).set (i := 7) (by simp) u7
theorem Bx.far8 {w : World} {g g' : Nat} {us : List Value} (h : Bx w g us) (hg : g ≠ g') (u0 u1 u2 u3 u4 u5 u6 u7 : Value) : Bx (Go.Proofs.YtgkapjjolhnliaaGreatDoor.set8 w g' u0 u1 u2 u3 u4 u5 u6 u7) g us :=
  (((((((h.far hg 0 u0).far hg 1 u1).far hg 2 u2).far hg 3 u3).far hg 4 u4).far hg 5 u5).far hg 6 u6).far hg 7 u7
theorem Src.set8 {w : World} {g : Nat} {K : Int} (h : Src w g K) {b : Nat} (hp : g < b) (u0 u1 u2 u3 u4 u5 u6 u7 : Value) : Src (Go.Proofs.YtgkapjjolhnliaaGreatDoor.set8 w b u0 u1 u2 u3 u4 u5 u6 u7) g K :=
  (((((((h.setNew hp 0 u0).setNew hp 1 u1).setNew hp 2 u2).setNew hp 3 u3).setNew hp 4 u4).setNew hp 5 u5).setNew hp 6 u6).setNew hp 7 u7
theorem Only.set8 {a w : World} {lo hi : Nat} (h : Only lo hi a w) {b : Nat} (hp : a.heap.size ≤ b) (u0 u1 u2 u3 u4 u5 u6 u7 : Value) : Only lo hi a (Go.Proofs.YtgkapjjolhnliaaGreatDoor.set8 w b u0 u1 u2 u3 u4 u5 u6 u7) :=
  (((((((h.setNew hp 0 u0).setNew hp 1 u1).setNew hp 2 u2).setNew hp 3 u3).setNew hp 4 u4).setNew hp 5 u5).setNew hp 6 u6).setNew hp 7 u7
theorem only_drew {lo hi : Nat} {a w : World} (h : Only lo hi a w) : Only lo hi a w.drew := ⟨h.os, h.tape, h.output, h.size, h.block⟩
theorem Only.below_ {lo hi : Nat} {a w w' : World} (h : Only lo hi a w) (hb : Below a.heap.size w w') : Only lo hi a w' :=
  ⟨hb.os.trans h.os, hb.tape.trans h.tape, hb.output.trans h.output, Nat.le_trans h.size hb.size, fun k hk hk2 => (hb.block k hk).trans (h.block k hk hk2)⟩
theorem among3 {W : World} {gs b : Nat} {K : Int} {x y z : Int} (hS : Src W gs K) (hK : K + 2 ≤ 1000000000) (hb : Bx W b [.int .i64 x, .int .i64 y, .int .i64 z]) (hne : b ≠ gs) :
    Calls Tryz.prog 45 #[.pointer (some ⟨gs, 0, none⟩), .slice (some ⟨b, 0, none⟩) 3 3] W (Drawn W gs (K + 2) fun _ => True) := by
  refine (among_any W gs [x, y, z] _ K hS hK ⟨some ⟨b, 0, none⟩, 3, 3, rfl, by omega, rfl, fun k hk => ?_⟩ (fun A n c e _ => ?_) (by simp)).mono (fun e w' ⟨u, h1, h2, h3, h4⟩ => ⟨u, h1, trivial, h3, h4⟩)
  · obtain ⟨c0, c1, c2⟩ := CellsAt.three hb.1
    rcases k with _ | _ | _ | k
    · exact ⟨b, 0, x, rfl, hb.2.2, rfl, c0⟩
    · exact ⟨b, 0, y, rfl, hb.2.2, rfl, c1⟩
    · exact ⟨b, 0, z, rfl, hb.2.2, rfl, c2⟩
    · omega
  · injection e with e1 _ _
    exact ⟨b, 0, e1.symm, hne⟩

end Go.Proofs.YtgkapjjolhnliaaGreatDoor
