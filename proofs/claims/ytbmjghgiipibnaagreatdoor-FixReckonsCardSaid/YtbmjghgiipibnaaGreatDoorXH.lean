/- WALKS of marchlandbig: add and sub, at the lengths that are met. -/
import Derived.Test.YtbmjghgiipibnaaGreatDoorXG
namespace Go.Proofs.YtbmjghgiipibnaaGreatDoor
open Go.RowKit
set_option linter.unusedVariables false

set_option maxRecDepth 100000 in
set_option maxHeartbeats 1000000 in
theorem addw_11 (g h c c' x0 y0 : Nat) (hx0 : x0 < 4294967296) (hy0 : y0 < 4294967296) (w : World) (cx0 : w.cell? ⟨g, 0, none⟩ = some (.int .u32 x0)) (cy0 : w.cell? ⟨h, 0, none⟩ = some (.int .u32 y0)) :
    Calls Tryz.prog 123 #[.slice (some ⟨g, 0, none⟩) 1 c, .slice (some ⟨h, 0, none⟩) 1 c'] w (NbNew w (x0 + y0)) := by
  obtain ⟨r0, er0⟩ : ∃ r, r = (x0 + y0) % 4294967296 := ⟨_, rfl⟩
  obtain ⟨c0, ec0⟩ : ∃ c, c = (x0 + y0) / 4294967296 := ⟨_, rfl⟩
  have br0 : r0 < 4294967296 := by omega
  have bc0 : c0 ≤ 1 := by omega
  have qa : IntKind.u64.wrap ((x0 : Int) + (y0 : Int)) = (x0 : Int) + (y0 : Int) := by rw [IntKind.wrap_u64]; omega
  have qb : IntKind.u32.wrap ((x0 : Int) + (y0 : Int)) = (r0 : Int) := by rw [IntKind.wrap_u32]; omega
  have qc : ((x0 : Int) + (y0 : Int)) / 4294967296 = (c0 : Int) := by omega
  have T := fun g w => Lib.hid (trim2 g 2 r0 c0 (x0 + y0) (by omega) (by omega) (by omega) (by omega) (by omega) w)
  have m := mkw2
  have s0 := lt_of_cell cx0
  have s1 := lt_of_cell cy0
  clear er0 ec0
  go_enter Tryz.func123, Tryz.ntmps123
  go_wp2_with fail
  refine wp_loop_rounds 2 ?_
  rw [rounds_succ]
  go_wp2_with fail
  rw [rounds_succ]
  go_wp2_with fail
  refine ((T _ _).out ?c0 ?c1).mono ?_
  case c0 =>
    apply row_cell (t := 76)
    · repeat (with_reducible first | exact rowN _ _ | apply rowS | apply rowD)
    · rfl
  case c1 =>
    apply row_cell (t := 76)
    · repeat (with_reducible first | exact rowN _ _ | apply rowS | apply rowD)
    · rfl
  rintro e w' ⟨a, l, c, rfl, hn, rfl⟩
  replace hn := Lib.hid hn
  go_wp2_with fail
  go_ret
  refine ⟨a, l, c, rfl, hn.out, ?_⟩
  repeat (with_reducible first | exact bl_one _ _ | refine belS ?_ _ _ _ (Nat.le_refl _) | refine bl_drewN ?_ _)

set_option maxRecDepth 100000 in
set_option maxHeartbeats 1000000 in
theorem addw_21 (g h c c' x0 x1 y0 : Nat) (hx0 : x0 < 4294967296) (hx1 : x1 < 4294967296) (hy0 : y0 < 4294967296) (w : World) (cx0 : w.cell? ⟨g, 0, none⟩ = some (.int .u32 x0)) (cx1 : w.cell? ⟨g, 1, none⟩ = some (.int .u32 x1)) (cy0 : w.cell? ⟨h, 0, none⟩ = some (.int .u32 y0)) :
    Calls Tryz.prog 123 #[.slice (some ⟨g, 0, none⟩) 2 c, .slice (some ⟨h, 0, none⟩) 1 c'] w (NbNew w ((x1 * 4294967296 + x0) + y0)) := by
  obtain ⟨r0, er0⟩ : ∃ r, r = (x0 + y0) % 4294967296 := ⟨_, rfl⟩
  obtain ⟨c0, ec0⟩ : ∃ c, c = (x0 + y0) / 4294967296 := ⟨_, rfl⟩
  have br0 : r0 < 4294967296 := by omega
  have bc0 : c0 ≤ 1 := by omega
  have qa : IntKind.u64.wrap ((x0 : Int) + (y0 : Int)) = (x0 : Int) + (y0 : Int) := by rw [IntKind.wrap_u64]; omega
  have qb : IntKind.u32.wrap ((x0 : Int) + (y0 : Int)) = (r0 : Int) := by rw [IntKind.wrap_u32]; omega
  have qc : ((x0 : Int) + (y0 : Int)) / 4294967296 = (c0 : Int) := by omega
  obtain ⟨r1, er1⟩ : ∃ r, r = (c0 + x1) % 4294967296 := ⟨_, rfl⟩
  obtain ⟨c1, ec1⟩ : ∃ c, c = (c0 + x1) / 4294967296 := ⟨_, rfl⟩
  have br1 : r1 < 4294967296 := by omega
  have bc1 : c1 ≤ 1 := by omega
  have qd : IntKind.u64.wrap ((c0 : Int) + (x1 : Int)) = (c0 : Int) + (x1 : Int) := by rw [IntKind.wrap_u64]; omega
  have qe : IntKind.u32.wrap ((c0 : Int) + (x1 : Int)) = (r1 : Int) := by rw [IntKind.wrap_u32]; omega
  have qf : ((c0 : Int) + (x1 : Int)) / 4294967296 = (c1 : Int) := by omega
  have T := fun g w => Lib.hid (trim3 g 3 r0 r1 c1 ((x1 * 4294967296 + x0) + y0) (by omega) (by omega) (by omega) (by omega) (by omega) (by omega) w)
  have m := mkw3
  have s0 := lt_of_cell cx0
  have s1 := lt_of_cell cy0
  clear er0 ec0 er1 ec1
  go_enter Tryz.func123, Tryz.ntmps123
  go_wp2_with fail
  refine wp_loop_rounds 3 ?_
  rw [rounds_succ]
  go_wp2_with fail
  rw [rounds_succ]
  go_wp2_with fail
  rw [rounds_succ]
  go_wp2_with fail
  refine ((T _ _).out ?c0 ?c1 ?c2).mono ?_
  case c0 =>
    apply row_cell (t := 76)
    · repeat (with_reducible first | exact rowN _ _ | apply rowS | apply rowD)
    · rfl
  case c1 =>
    apply row_cell (t := 76)
    · repeat (with_reducible first | exact rowN _ _ | apply rowS | apply rowD)
    · rfl
  case c2 =>
    apply row_cell (t := 76)
    · repeat (with_reducible first | exact rowN _ _ | apply rowS | apply rowD)
    · rfl
  rintro e w' ⟨a, l, c, rfl, hn, rfl⟩
  replace hn := Lib.hid hn
  go_wp2_with fail
  go_ret
  refine ⟨a, l, c, rfl, hn.out, ?_⟩
  repeat (with_reducible first | exact bl_one _ _ | refine belS ?_ _ _ _ (Nat.le_refl _) | refine bl_drewN ?_ _)

set_option maxRecDepth 100000 in
set_option maxHeartbeats 1000000 in
theorem subw_10 (g h c c' x0 : Nat) (b : Option Addr) (hx0 : x0 < 4294967296) (w : World) (cx0 : w.cell? ⟨g, 0, none⟩ = some (.int .u32 x0))  :
    Calls Tryz.prog 124 #[.slice (some ⟨g, 0, none⟩) 1 c, .slice b 0 c'] w (NbNew w (x0 - 0)) := by
  obtain ⟨r0, er0⟩ : ∃ r, r = x0 := ⟨_, rfl⟩
  have br0 : r0 < 4294967296 := by omega
  have qb0 : IntKind.u32.wrap (x0 : Int) = (r0 : Int) := by rw [IntKind.wrap_u32]; omega
  have qc0 : (x0 : Int) / 9223372036854775808 = 0 := by omega
  have T := fun g w => Lib.hid (trim1 g 1 r0 (by omega) (by omega) (by omega) w)
  rw [show x0 - 0 = r0 by omega]
  have m := mkw1
  have s0 := lt_of_cell cx0
  clear er0
  go_enter Tryz.func124, Tryz.ntmps124
  go_wp2_with fail
  refine wp_loop_rounds 2 ?_
  rw [rounds_succ]
  go_wp2_with fail
  rw [rounds_succ]
  go_wp2_with fail
  refine ((T _ _).out ?c0).mono ?_
  case c0 =>
    apply row_cell (t := 76)
    · repeat (with_reducible first | exact rowN _ _ | apply rowS | apply rowD)
    · rfl
  rintro e w' ⟨a, l, c, rfl, hn, rfl⟩
  replace hn := Lib.hid hn
  go_wp2_with fail
  go_ret
  refine ⟨a, l, c, rfl, hn.out, ?_⟩
  repeat (with_reducible first | exact bl_one _ _ | refine belS ?_ _ _ _ (Nat.le_refl _) | refine bl_drewN ?_ _)

set_option maxRecDepth 100000 in
set_option maxHeartbeats 1000000 in
theorem subw_20 (g h c c' x0 x1 : Nat) (b : Option Addr) (hx0 : x0 < 4294967296) (hx1 : x1 < 4294967296) (w : World) (cx0 : w.cell? ⟨g, 0, none⟩ = some (.int .u32 x0)) (cx1 : w.cell? ⟨g, 1, none⟩ = some (.int .u32 x1))  :
    Calls Tryz.prog 124 #[.slice (some ⟨g, 0, none⟩) 2 c, .slice b 0 c'] w (NbNew w ((x1 * 4294967296 + x0) - 0)) := by
  obtain ⟨r0, er0⟩ : ∃ r, r = x0 := ⟨_, rfl⟩
  have br0 : r0 < 4294967296 := by omega
  have qb0 : IntKind.u32.wrap (x0 : Int) = (r0 : Int) := by rw [IntKind.wrap_u32]; omega
  have qc0 : (x0 : Int) / 9223372036854775808 = 0 := by omega
  obtain ⟨r1, er1⟩ : ∃ r, r = x1 := ⟨_, rfl⟩
  have br1 : r1 < 4294967296 := by omega
  have qb1 : IntKind.u32.wrap (x1 : Int) = (r1 : Int) := by rw [IntKind.wrap_u32]; omega
  have qc1 : (x1 : Int) / 9223372036854775808 = 0 := by omega
  have T := fun g w => Lib.hid (trim2 g 2 r0 r1 ((x1 * 4294967296 + x0) - 0) (by omega) (by omega) (by omega) (by omega) (by omega) w)
  have m := mkw2
  have s0 := lt_of_cell cx0
  clear er0 er1
  go_enter Tryz.func124, Tryz.ntmps124
  go_wp2_with fail
  refine wp_loop_rounds 3 ?_
  rw [rounds_succ]
  go_wp2_with fail
  rw [rounds_succ]
  go_wp2_with fail
  rw [rounds_succ]
  go_wp2_with fail
  refine ((T _ _).out ?c0 ?c1).mono ?_
  case c0 =>
    apply row_cell (t := 76)
    · repeat (with_reducible first | exact rowN _ _ | apply rowS | apply rowD)
    · rfl
  case c1 =>
    apply row_cell (t := 76)
    · repeat (with_reducible first | exact rowN _ _ | apply rowS | apply rowD)
    · rfl
  rintro e w' ⟨a, l, c, rfl, hn, rfl⟩
  replace hn := Lib.hid hn
  go_wp2_with fail
  go_ret
  refine ⟨a, l, c, rfl, hn.out, ?_⟩
  repeat (with_reducible first | exact bl_one _ _ | refine belS ?_ _ _ _ (Nat.le_refl _) | refine bl_drewN ?_ _)

set_option maxRecDepth 100000 in
set_option maxHeartbeats 1000000 in
theorem subw_11 (g h c c' x0 y0 : Nat) (b : Option Addr) (hx0 : x0 < 4294967296) (hy0 : y0 < 4294967296) (hb : y0 ≤ x0) (w : World) (cx0 : w.cell? ⟨g, 0, none⟩ = some (.int .u32 x0)) (cy0 : w.cell? ⟨h, 0, none⟩ = some (.int .u32 y0)) :
    Calls Tryz.prog 124 #[.slice (some ⟨g, 0, none⟩) 1 c, .slice (some ⟨h, 0, none⟩) 1 c'] w (NbNew w (x0 - y0)) := by
  have qa0 : IntKind.u64.wrap ((x0 : Int) - (y0 : Int)) = ((x0 : Int) - (y0 : Int)) := by rw [IntKind.wrap_u64]; omega
  obtain ⟨r0, er0⟩ : ∃ r, r = x0 - y0 := ⟨_, rfl⟩
  have br0 : r0 < 4294967296 := by omega
  have qb0 : IntKind.u32.wrap ((x0 : Int) - (y0 : Int)) = (r0 : Int) := by rw [IntKind.wrap_u32]; omega
  have qc0 : ((x0 : Int) - (y0 : Int)) / 9223372036854775808 = 0 := by omega
  have T := fun g w => Lib.hid (trim1 g 1 r0 (by omega) (by omega) (by omega) w)
  rw [show x0 - y0 = r0 by omega]
  have m := mkw1
  have s0 := lt_of_cell cx0
  have s1 := lt_of_cell cy0
  clear er0
  go_enter Tryz.func124, Tryz.ntmps124
  go_wp2_with fail
  refine wp_loop_rounds 2 ?_
  rw [rounds_succ]
  go_wp2_with fail
  rw [rounds_succ]
  go_wp2_with fail
  refine ((T _ _).out ?c0).mono ?_
  case c0 =>
    apply row_cell (t := 76)
    · repeat (with_reducible first | exact rowN _ _ | apply rowS | apply rowD)
    · rfl
  rintro e w' ⟨a, l, c, rfl, hn, rfl⟩
  replace hn := Lib.hid hn
  go_wp2_with fail
  go_ret
  refine ⟨a, l, c, rfl, hn.out, ?_⟩
  repeat (with_reducible first | exact bl_one _ _ | refine belS ?_ _ _ _ (Nat.le_refl _) | refine bl_drewN ?_ _)

set_option maxRecDepth 100000 in
set_option maxHeartbeats 1000000 in
theorem subw_21 (g h c c' x0 x1 y0 : Nat) (b : Option Addr) (hx0 : x0 < 4294967296) (hx1 : x1 < 4294967296) (hy0 : y0 < 4294967296) (hb : y0 ≤ x0) (w : World) (cx0 : w.cell? ⟨g, 0, none⟩ = some (.int .u32 x0)) (cx1 : w.cell? ⟨g, 1, none⟩ = some (.int .u32 x1)) (cy0 : w.cell? ⟨h, 0, none⟩ = some (.int .u32 y0)) :
    Calls Tryz.prog 124 #[.slice (some ⟨g, 0, none⟩) 2 c, .slice (some ⟨h, 0, none⟩) 1 c'] w (NbNew w ((x1 * 4294967296 + x0) - y0)) := by
  have qa0 : IntKind.u64.wrap ((x0 : Int) - (y0 : Int)) = ((x0 : Int) - (y0 : Int)) := by rw [IntKind.wrap_u64]; omega
  obtain ⟨r0, er0⟩ : ∃ r, r = x0 - y0 := ⟨_, rfl⟩
  have br0 : r0 < 4294967296 := by omega
  have qb0 : IntKind.u32.wrap ((x0 : Int) - (y0 : Int)) = (r0 : Int) := by rw [IntKind.wrap_u32]; omega
  have qc0 : ((x0 : Int) - (y0 : Int)) / 9223372036854775808 = 0 := by omega
  obtain ⟨r1, er1⟩ : ∃ r, r = x1 := ⟨_, rfl⟩
  have br1 : r1 < 4294967296 := by omega
  have qb1 : IntKind.u32.wrap (x1 : Int) = (r1 : Int) := by rw [IntKind.wrap_u32]; omega
  have qc1 : (x1 : Int) / 9223372036854775808 = 0 := by omega
  have T := fun g w => Lib.hid (trim2 g 2 r0 r1 ((x1 * 4294967296 + x0) - y0) (by omega) (by omega) (by omega) (by omega) (by omega) w)
  have m := mkw2
  have s0 := lt_of_cell cx0
  have s1 := lt_of_cell cy0
  clear er0 er1
  go_enter Tryz.func124, Tryz.ntmps124
  go_wp2_with fail
  refine wp_loop_rounds 3 ?_
  rw [rounds_succ]
  go_wp2_with fail
  rw [rounds_succ]
  go_wp2_with fail
  rw [rounds_succ]
  go_wp2_with fail
  refine ((T _ _).out ?c0 ?c1).mono ?_
  case c0 =>
    apply row_cell (t := 76)
    · repeat (with_reducible first | exact rowN _ _ | apply rowS | apply rowD)
    · rfl
  case c1 =>
    apply row_cell (t := 76)
    · repeat (with_reducible first | exact rowN _ _ | apply rowS | apply rowD)
    · rfl
  rintro e w' ⟨a, l, c, rfl, hn, rfl⟩
  replace hn := Lib.hid hn
  go_wp2_with fail
  go_ret
  refine ⟨a, l, c, rfl, hn.out, ?_⟩
  repeat (with_reducible first | exact bl_one _ _ | refine belS ?_ _ _ _ (Nat.le_refl _) | refine bl_drewN ?_ _)

set_option maxRecDepth 100000 in
set_option maxHeartbeats 1000000 in
theorem subw_21b (g h c c' x0 x1 y0 : Nat) (b : Option Addr) (hx0 : x0 < 4294967296) (hx1 : x1 < 4294967296) (hy0 : y0 < 4294967296) (hb : x0 < y0) (hb' : 0 < x1) (w : World) (cx0 : w.cell? ⟨g, 0, none⟩ = some (.int .u32 x0)) (cx1 : w.cell? ⟨g, 1, none⟩ = some (.int .u32 x1)) (cy0 : w.cell? ⟨h, 0, none⟩ = some (.int .u32 y0)) :
    Calls Tryz.prog 124 #[.slice (some ⟨g, 0, none⟩) 2 c, .slice (some ⟨h, 0, none⟩) 1 c'] w (NbNew w ((x1 * 4294967296 + x0) - y0)) := by
  have qa0 : IntKind.u64.wrap ((x0 : Int) - (y0 : Int)) = ((x0 : Int) - (y0 : Int)) + 18446744073709551616 := by rw [IntKind.wrap_u64]; omega
  obtain ⟨r0, er0⟩ : ∃ r, r = 4294967296 + x0 - y0 := ⟨_, rfl⟩
  have br0 : r0 < 4294967296 := by omega
  have qb0 : IntKind.u32.wrap (((x0 : Int) - (y0 : Int)) + 18446744073709551616) = (r0 : Int) := by rw [IntKind.wrap_u32]; omega
  have qc0 : (((x0 : Int) - (y0 : Int)) + 18446744073709551616) / 9223372036854775808 = 1 := by omega
  have qz1 : IntKind.u64.wrap ((x1 : Int) - 1) = ((x1 : Int) - 1) := by rw [IntKind.wrap_u64]; omega
  obtain ⟨r1, er1⟩ : ∃ r, r = x1 - 1 := ⟨_, rfl⟩
  have br1 : r1 < 4294967296 := by omega
  have qb1 : IntKind.u32.wrap ((x1 : Int) - 1) = (r1 : Int) := by rw [IntKind.wrap_u32]; omega
  have qc1 : ((x1 : Int) - 1) / 9223372036854775808 = 0 := by omega
  have T := fun g w => Lib.hid (trim2 g 2 r0 r1 ((x1 * 4294967296 + x0) - y0) (by omega) (by omega) (by omega) (by omega) (by omega) w)
  have m := mkw2
  have s0 := lt_of_cell cx0
  have s1 := lt_of_cell cy0
  clear er0 er1
  go_enter Tryz.func124, Tryz.ntmps124
  go_wp2_with fail
  refine wp_loop_rounds 3 ?_
  rw [rounds_succ]
  go_wp2_with fail
  rw [rounds_succ]
  go_wp2_with fail
  rw [rounds_succ]
  go_wp2_with fail
  refine ((T _ _).out ?c0 ?c1).mono ?_
  case c0 =>
    apply row_cell (t := 76)
    · repeat (with_reducible first | exact rowN _ _ | apply rowS | apply rowD)
    · rfl
  case c1 =>
    apply row_cell (t := 76)
    · repeat (with_reducible first | exact rowN _ _ | apply rowS | apply rowD)
    · rfl
  rintro e w' ⟨a, l, c, rfl, hn, rfl⟩
  replace hn := Lib.hid hn
  go_wp2_with fail
  go_ret
  refine ⟨a, l, c, rfl, hn.out, ?_⟩
  repeat (with_reducible first | exact bl_one _ _ | refine belS ?_ _ _ _ (Nat.le_refl _) | refine bl_drewN ?_ _)

set_option maxRecDepth 100000 in
set_option maxHeartbeats 1000000 in
theorem subw_22 (g h c c' x0 x1 y0 y1 : Nat) (b : Option Addr) (hx0 : x0 < 4294967296) (hx1 : x1 < 4294967296) (hy0 : y0 < 4294967296) (hy1 : y1 < 4294967296) (hb : y0 ≤ x0) (hb' : y1 ≤ x1) (w : World) (cx0 : w.cell? ⟨g, 0, none⟩ = some (.int .u32 x0)) (cx1 : w.cell? ⟨g, 1, none⟩ = some (.int .u32 x1)) (cy0 : w.cell? ⟨h, 0, none⟩ = some (.int .u32 y0)) (cy1 : w.cell? ⟨h, 1, none⟩ = some (.int .u32 y1)) :
    Calls Tryz.prog 124 #[.slice (some ⟨g, 0, none⟩) 2 c, .slice (some ⟨h, 0, none⟩) 2 c'] w (NbNew w ((x1 * 4294967296 + x0) - (y1 * 4294967296 + y0))) := by
  have qa0 : IntKind.u64.wrap ((x0 : Int) - (y0 : Int)) = ((x0 : Int) - (y0 : Int)) := by rw [IntKind.wrap_u64]; omega
  obtain ⟨r0, er0⟩ : ∃ r, r = x0 - y0 := ⟨_, rfl⟩
  have br0 : r0 < 4294967296 := by omega
  have qb0 : IntKind.u32.wrap ((x0 : Int) - (y0 : Int)) = (r0 : Int) := by rw [IntKind.wrap_u32]; omega
  have qc0 : ((x0 : Int) - (y0 : Int)) / 9223372036854775808 = 0 := by omega
  have qa1 : IntKind.u64.wrap ((x1 : Int) - (y1 : Int)) = ((x1 : Int) - (y1 : Int)) := by rw [IntKind.wrap_u64]; omega
  obtain ⟨r1, er1⟩ : ∃ r, r = x1 - y1 := ⟨_, rfl⟩
  have br1 : r1 < 4294967296 := by omega
  have qb1 : IntKind.u32.wrap ((x1 : Int) - (y1 : Int)) = (r1 : Int) := by rw [IntKind.wrap_u32]; omega
  have qc1 : ((x1 : Int) - (y1 : Int)) / 9223372036854775808 = 0 := by omega
  have T := fun g w => Lib.hid (trim2 g 2 r0 r1 ((x1 * 4294967296 + x0) - (y1 * 4294967296 + y0)) (by omega) (by omega) (by omega) (by omega) (by omega) w)
  have m := mkw2
  have s0 := lt_of_cell cx0
  have s1 := lt_of_cell cy0
  clear er0 er1
  go_enter Tryz.func124, Tryz.ntmps124
  go_wp2_with fail
  refine wp_loop_rounds 3 ?_
  rw [rounds_succ]
  go_wp2_with fail
  rw [rounds_succ]
  go_wp2_with fail
  rw [rounds_succ]
  go_wp2_with fail
  refine ((T _ _).out ?c0 ?c1).mono ?_
  case c0 =>
    apply row_cell (t := 76)
    · repeat (with_reducible first | exact rowN _ _ | apply rowS | apply rowD)
    · rfl
  case c1 =>
    apply row_cell (t := 76)
    · repeat (with_reducible first | exact rowN _ _ | apply rowS | apply rowD)
    · rfl
  rintro e w' ⟨a, l, c, rfl, hn, rfl⟩
  replace hn := Lib.hid hn
  go_wp2_with fail
  go_ret
  refine ⟨a, l, c, rfl, hn.out, ?_⟩
  repeat (with_reducible first | exact bl_one _ _ | refine belS ?_ _ _ _ (Nat.le_refl _) | refine bl_drewN ?_ _)

set_option maxRecDepth 100000 in
set_option maxHeartbeats 1000000 in
theorem subw_22b (g h c c' x0 x1 y0 y1 : Nat) (b : Option Addr) (hx0 : x0 < 4294967296) (hx1 : x1 < 4294967296) (hy0 : y0 < 4294967296) (hy1 : y1 < 4294967296) (hb : x0 < y0) (hb' : y1 < x1) (w : World) (cx0 : w.cell? ⟨g, 0, none⟩ = some (.int .u32 x0)) (cx1 : w.cell? ⟨g, 1, none⟩ = some (.int .u32 x1)) (cy0 : w.cell? ⟨h, 0, none⟩ = some (.int .u32 y0)) (cy1 : w.cell? ⟨h, 1, none⟩ = some (.int .u32 y1)) :
    Calls Tryz.prog 124 #[.slice (some ⟨g, 0, none⟩) 2 c, .slice (some ⟨h, 0, none⟩) 2 c'] w (NbNew w ((x1 * 4294967296 + x0) - (y1 * 4294967296 + y0))) := by
  have qa0 : IntKind.u64.wrap ((x0 : Int) - (y0 : Int)) = ((x0 : Int) - (y0 : Int)) + 18446744073709551616 := by rw [IntKind.wrap_u64]; omega
  obtain ⟨r0, er0⟩ : ∃ r, r = 4294967296 + x0 - y0 := ⟨_, rfl⟩
  have br0 : r0 < 4294967296 := by omega
  have qb0 : IntKind.u32.wrap (((x0 : Int) - (y0 : Int)) + 18446744073709551616) = (r0 : Int) := by rw [IntKind.wrap_u32]; omega
  have qc0 : (((x0 : Int) - (y0 : Int)) + 18446744073709551616) / 9223372036854775808 = 1 := by omega
  have qz1 : IntKind.u64.wrap ((x1 : Int) - 1) = ((x1 : Int) - 1) := by rw [IntKind.wrap_u64]; omega
  have qa1 : IntKind.u64.wrap (((x1 : Int) - 1) - (y1 : Int)) = (((x1 : Int) - 1) - (y1 : Int)) := by rw [IntKind.wrap_u64]; omega
  obtain ⟨r1, er1⟩ : ∃ r, r = x1 - 1 - y1 := ⟨_, rfl⟩
  have br1 : r1 < 4294967296 := by omega
  have qb1 : IntKind.u32.wrap (((x1 : Int) - 1) - (y1 : Int)) = (r1 : Int) := by rw [IntKind.wrap_u32]; omega
  have qc1 : (((x1 : Int) - 1) - (y1 : Int)) / 9223372036854775808 = 0 := by omega
  have T := fun g w => Lib.hid (trim2 g 2 r0 r1 ((x1 * 4294967296 + x0) - (y1 * 4294967296 + y0)) (by omega) (by omega) (by omega) (by omega) (by omega) w)
  have m := mkw2
  have s0 := lt_of_cell cx0
  have s1 := lt_of_cell cy0
  clear er0 er1
  go_enter Tryz.func124, Tryz.ntmps124
  go_wp2_with fail
  refine wp_loop_rounds 3 ?_
  rw [rounds_succ]
  go_wp2_with fail
  rw [rounds_succ]
  go_wp2_with fail
  rw [rounds_succ]
  go_wp2_with fail
  refine ((T _ _).out ?c0 ?c1).mono ?_
  case c0 =>
    apply row_cell (t := 76)
    · repeat (with_reducible first | exact rowN _ _ | apply rowS | apply rowD)
    · rfl
  case c1 =>
    apply row_cell (t := 76)
    · repeat (with_reducible first | exact rowN _ _ | apply rowS | apply rowD)
    · rfl
  rintro e w' ⟨a, l, c, rfl, hn, rfl⟩
  replace hn := Lib.hid hn
  go_wp2_with fail
  go_ret
  refine ⟨a, l, c, rfl, hn.out, ?_⟩
  repeat (with_reducible first | exact bl_one _ _ | refine belS ?_ _ _ _ (Nat.le_refl _) | refine bl_drewN ?_ _)

end Go.Proofs.YtbmjghgiipibnaaGreatDoor
