/- WALKS of plain.Told and marchsame.Error. -/
import Derived.Test.YtbmjghgiipibnaaGreatDoorV
import Derived.Test.YtbmjghgiipibnaaGreatDoorH
namespace Go.Proofs.YtbmjghgiipibnaaGreatDoor
open Go.RowKit
set_option linter.unusedVariables false

/-- what errors.As reads of the package errors -/
def ErrT (w : World) : Prop := w.cell? ⟨0, 0, none⟩ = some (.iface 118 (.agg #[.pointer (some ⟨17, 23, none⟩)]))

theorem told_nil (w : World) : Calls Tryz.prog 22 #[.nilIface] w fun e w' => e = .returned (.int .i64 0) ∧ w = w' := by
  go_enter Tryz.func22, Tryz.ntmps22
  go_wp2_with fail
  go_ret
  exact ⟨rfl, rfl⟩

theorem told_some (k : Int) (w : World) (hg : ErrT w) : Calls Tryz.prog 22 #[.iface 33 (.int .i64 k)] w fun e w' => e = .returned (.int .i64 k) ∧ Below w.heap.size w w' := by
  have hs : 0 < w.heap.size := lt_of_cell hg
  have A := Lib.hid (as_hit k ⟨w.heap.size, 0, none⟩ (.int .i64 0) (w.alloc (.cells #[.int .i64 0] 33)) (cell_al hg _) (by simp) (by simp))
  clear hg
  go_enter Tryz.func22, Tryz.ntmps22
  go_wp2_with fail
  refine A.out.mono ?_
  rintro e w1 ⟨rfl, hw⟩
  have hc : w1.cell? ⟨w.heap.size, 0, none⟩ = some (.int .i64 k) := by
    rw [hw]
    exact World.cell?_setCell_same _ _ _ (cell_al (cell_al (cell_al (cell_al (v := .int .i64 0) (by simp) _) _) _) _)
  have hb : Below w.heap.size w w1 := by
    rw [hw]
    go_grown
  clear hw A
  go_wp2_with fail
  go_ret
  exact ⟨rfl, hb⟩
end Go.Proofs.YtbmjghgiipibnaaGreatDoor
