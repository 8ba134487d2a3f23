/- WALKS of math/big's nat: set, divWVW, divW, div, mul. -/
import Derived.Test.YtbmjghgiipibnaaGreatDoorD
import Derived.Laws.CopyOwn
import Derived.Deep.WholeRow
namespace Go.Proofs.YtbmjghgiipibnaaGreatDoor
open Go.RowKit
set_option linter.unusedVariables false

theorem size50 : (Tryz.prog.info? 50).map (·.size) = some 1 := by kernel_rfl

theorem set_nil (w : World) : Calls Tryz.prog 81 #[.slice none 0 0, .slice none 0 0] w fun e w' => e = .returned (.slice none 0 0) ∧ w = w' := by
  go_enter Tryz.func81, Tryz.ntmps81
  go_wp2_with fail
  refine (make_nil _).mono ?_
  rintro e w' ⟨rfl, rfl⟩
  go_wp2_with (refine wpList_copy_nothing rfl (.tmp 9) (.tmp 10) 36 36 rfl 50 Tryz.underlying36 size50 none none 0 0 0 0 rfl rfl rfl ?_)
  go_ret
  exact ⟨rfl, rfl⟩

theorem set_one (h k x : Nat) (hk1 : 1 ≤ k) (hk2 : k ≤ 100) (w : World) (h0 : w.cell? ⟨h, 0, none⟩ = some (.int .u64 x)) :
    Calls Tryz.prog 81 #[.slice none 0 0, .slice (some ⟨h, 0, none⟩) 1 k] w fun e w' =>
      e = .returned (.slice (some ⟨w.heap.size, 0, none⟩) 1 1) ∧ w.alloc (.cells #[.int .u64 x] 50) = w' := by
  have hh := lt_of_cell h0
  go_enter Tryz.func81, Tryz.ntmps81
  go_wp2_with fail
  refine (make_one _).mono ?_
  rintro e w' ⟨rfl, rfl⟩
  go_wp2_with (refine wpList_copy_own rfl (.tmp 9) (.tmp 10) 36 36 rfl 50 Tryz.underlying36 size50 w.heap.size 0 1 1 ⟨h, 0, none⟩ 1 k rfl rfl #[.int .u64 0] 50 ?c1 [.int .u64 x] rfl ?c2 ?c3 ?c4 ?c5)
  case c1 => exact heap_alloc_new w _
  case c2 =>
    intro j v hj
    match j, hj with
    | 0, hj => simp at hj; subst hj; exact cell_al h0 _
  case c3 => simp
  case c4 => intro v hv; simp at hv; subst hv; rfl
  go_ret
  exact ⟨rfl, (World.setRow_alloc_new _ _ _ _).symm⟩

/-- into a row of the call's own that is there already -/
theorem set_into (g h k x : Nat) (hk1 : 1 ≤ k) (hk2 : k ≤ 100) (v : Value) (w : World) (h0 : w.cell? ⟨h, 0, none⟩ = some (.int .u64 x)) (hg : w.heap[g]? = some (.cells #[v] 50 (0, 0))) :
    Calls Tryz.prog 81 #[.slice (some ⟨g, 0, none⟩) 0 1, .slice (some ⟨h, 0, none⟩) 1 k] w fun e w' =>
      e = .returned (.slice (some ⟨g, 0, none⟩) 1 1) ∧ w.setRow g #[.int .u64 x] = w' := by
  go_enter Tryz.func81, Tryz.ntmps81
  go_wp2_with fail
  refine (make_fits _ 0 1 1 (by omega) (by omega) _).mono ?_
  rintro e w' ⟨rfl, rfl⟩
  go_wp2_with (refine wpList_copy_own rfl (.tmp 9) (.tmp 10) 36 36 rfl 50 Tryz.underlying36 size50 g 0 1 1 ⟨h, 0, none⟩ 1 k rfl rfl #[v] 50 hg [.int .u64 x] rfl ?c2 ?c3 ?c4 ?c5)
  case c2 =>
    intro j v hj
    match j, hj with
    | 0, hj => simp at hj; subst hj; exact h0
  case c3 => simp
  case c4 => intro v hv; simp at hv; subst hv; rfl
  go_ret
  exact ⟨rfl, rfl⟩

/-- divWVW over one word. -/
theorem divWVW_one (g h c k x y Q R : Nat) (hc1 : 1 ≤ c) (hc2 : c ≤ 100) (hk1 : 1 ≤ k) (hk2 : k ≤ 100) (hx : x < 18446744073709551616) (hy : y < 18446744073709551616) (hq : x = Q * y + R) (hR : R < y) (v : Value) (w : World)
    (h0 : w.cell? ⟨h, 0, none⟩ = some (.int .u64 x)) (h1 : w.cell? ⟨g, 0, none⟩ = some v) (hf : w.frozen? ⟨g, 0, none⟩ = false) :
    Calls Tryz.prog 109 #[.slice (some ⟨g, 0, none⟩) 1 c, .int .u64 0, .slice (some ⟨h, 0, none⟩) 1 k, .int .u64 y] w fun e w' =>
      e = .returned (.int .u64 (R : Int)) ∧ ∃ n, w' = (w.setCell ⟨g, 0, none⟩ (.int .u64 (Q : Int))).drewN n := by
  have C := Lib.hid (div_any x y Q R hx hy hq hR)
  clear hq hx hy hR
  go_enter Tryz.func109, Tryz.ntmps109
  go_wp2_with fail
  refine (C.out _).mono ?_
  rintro e w' ⟨rfl, n, rfl⟩
  go_wp2_with fail
  go_ret
  exact ⟨rfl, _, rfl⟩
end Go.Proofs.YtbmjghgiipibnaaGreatDoor
