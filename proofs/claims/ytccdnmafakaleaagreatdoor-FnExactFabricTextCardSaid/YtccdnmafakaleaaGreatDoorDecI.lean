/-
  A number as decimal text: the program's Decimal, by the shelf's strconv.FormatInt; strings.Join laid.
-/
import Derived.Test.YtccdnmafakaleaaGreatDoorTxt0
import Derived.Shelf.Lay
import Derived.Shelf.Strconv.Itoa4
import Derived.Shelf.Strings.OnBuilder
import Derived.Ground.NamesProg
import Derived.Lib.AppendIntMem
import Derived.Lib.Hide
namespace Go.Proofs.YtccdnmafakaleaaGreatDoor
set_option linter.unusedVariables false
set_option linter.unusedSimpArgs false
open Go.RowKit Go.Shelf

shelf_lay LaysM.n173 Nm 173 at Tryz as decLay
shelf_lay Lays.n156 Nm 156 at Tryz as joinLay
theorem joinExtra : Builder.Extra Tryz.prog joinLay_ren where
  sizeBuilder := by kernel_rfl
  liesBuilder := by kernel_rfl
  t5 := decLay.t5
  a5 := decLay.a5
  z5 := decLay.z5
  v5 := decLay.v5
  infoByte := by kernel_rfl
  cellsByte := by kernel_rfl
  sizeByte := by kernel_rfl
  neB5 := by decide
def TabW (B : Nat) (w : World) : Prop := Lib.TabBelow Tryz.prog B w "internal/strconv.uint64pow10" .u64 Lib.pow10Tab
set_option maxHeartbeats 4000000 in
set_option maxRecDepth 100000 in
theorem Decimal_any (n : Int) (h0 : -1000000000 ≤ n) (h1 : n ≤ 1000000000) (B : Nat) (w : World) (ht : TabW B w) : Calls Tryz.prog 28 #[.int .i64 n] w fun e w' => e = .returned (strV (Lib.itoa n)) ∧ Below w.heap.size w w' := by
  have hc := Any.strconv_FormatInt_10 decLay n (by omega) (by omega) w ht.here
  go_enter Tryz.func28, Tryz.ntmps28
  go_wp2_with (go_at_call 43; refine hc.mono ?_; rintro e w' ⟨rfl, k, os, rfl⟩)
  go_ret
  exact ⟨rfl, Lib.below_grow _ w (Nat.le_refl _) k os⟩

end Go.Proofs.YtccdnmafakaleaaGreatDoor
