/- WALK of marchlandbig.mul over one or two words. -/
import Derived.Test.YtbmjghgiipibnaaGreatDoorXE
namespace Go.Proofs.YtbmjghgiipibnaaGreatDoor
open Go.RowKit
set_option linter.unusedVariables false

theorem mkw1 (w : World) : (Instr.makeSlice 58 (.int .i64 1) (.int .i64 1)).run Tryz.prog w = .ok (.slice (some ⟨w.heap.size, 0, none⟩) 1 1) (w.alloc (.cells #[.int .u32 0] 76)) := by kernel_rfl
theorem mkw2 (w : World) : (Instr.makeSlice 58 (.int .i64 2) (.int .i64 2)).run Tryz.prog w = .ok (.slice (some ⟨w.heap.size, 0, none⟩) 2 2) (w.alloc (.cells #[.int .u32 0, .int .u32 0] 76)) := by kernel_rfl
theorem mkw3 (w : World) : (Instr.makeSlice 58 (.int .i64 3) (.int .i64 3)).run Tryz.prog w = .ok (.slice (some ⟨w.heap.size, 0, none⟩) 3 3) (w.alloc (.cells #[.int .u32 0, .int .u32 0, .int .u32 0] 76)) := by kernel_rfl
theorem mkw4 (w : World) : (Instr.makeSlice 58 (.int .i64 4) (.int .i64 4)).run Tryz.prog w = .ok (.slice (some ⟨w.heap.size, 0, none⟩) 4 4) (w.alloc (.cells #[.int .u32 0, .int .u32 0, .int .u32 0, .int .u32 0] 76)) := by kernel_rfl

theorem mulw_nil1 (a b : Option Addr) (c l' c' : Nat) (w : World) : Calls Tryz.prog 37 #[.slice a 0 c, .slice b l' c'] w fun e w' => e = .returned (.slice none 0 0) ∧ w = w' := by
  go_enter Tryz.func37, Tryz.ntmps37
  go_wp2_with fail
  go_ret
  exact ⟨rfl, rfl⟩
theorem mulw_nil2 (a b : Option Addr) (l c c' : Nat) (hl : 0 < l) (hl3 : l ≤ 3) (w : World) : Calls Tryz.prog 37 #[.slice a l c, .slice b 0 c'] w fun e w' => e = .returned (.slice none 0 0) ∧ w = w' := by
  have hb : ((l : Int) == 0) = false := by rw [beq_eq_false_iff_ne]; omega
  go_enter Tryz.func37, Tryz.ntmps37
  go_wp2_with fail
  go_ret
  exact ⟨rfl, rfl⟩

theorem rowS {w : World} {g : Nat} {c : Array Value} {t : TypeId} (h : w.heap[g]? = some (.cells c t (0, 0))) (i : Nat) (v : Value) : (w.setCell ⟨g, i, none⟩ v).heap[g]? = some (.cells (c.setIfInBounds i v) t (0, 0)) := by
  show (w.heap.modify g _)[g]? = _
  rw [Array.getElem?_modify, if_pos rfl, h]
  rfl
theorem rowD {w : World} {g : Nat} {o : Obj} (h : w.heap[g]? = some o) (n : Nat) : (w.drewN n).heap[g]? = some o := h
theorem rowN (w : World) (o : Obj) : (w.alloc o).heap[w.heap.size]? = some o := new_heap w o
theorem belS {B : Nat} {a w : World} (h : Below B a w) (g i : Nat) (v : Value) (hg : B ≤ g) : Below B a (w.setCell ⟨g, i, none⟩ v) := h.setCell hg v
theorem row_cell {w : World} {g i : Nat} {c : Array Value} {t : TypeId} {v : Value} (h : w.heap[g]? = some (.cells c t (0, 0))) (hv : c[i]? = some v) : w.cell? ⟨g, i, none⟩ = some v := (cell_row h i).trans hv
/-- one step of the rows: a product of words -/
theorem words_le (x y : Nat) (hx : x < 4294967296) (hy : y < 4294967296) : x * y ≤ 18446744065119617025 := Nat.mul_le_mul (n₁ := x) (m₁ := y) (n₂ := 4294967295) (m₂ := 4294967295) (by omega) (by omega)

theorem mul22 (x0 x1 y0 y1 : Nat) : (x1 * 4294967296 + x0) * (y1 * 4294967296 + y0) = x1 * y1 * 18446744073709551616 + (x1 * y0 + x0 * y1) * 4294967296 + x0 * y0 := by
  have e1 : x1 * 4294967296 * (y1 * 4294967296) = x1 * y1 * 18446744073709551616 := by
    rw [Nat.mul_mul_mul_comm]
  have e2 : x1 * 4294967296 * y0 = x1 * y0 * 4294967296 := Nat.mul_right_comm _ _ _
  have e3 : x0 * (y1 * 4294967296) = x0 * y1 * 4294967296 := (Nat.mul_assoc _ _ _).symm
  rw [Nat.add_mul, Nat.mul_add, Nat.mul_add, e1, e2, e3, Nat.add_mul]
  omega

set_option maxRecDepth 100000 in
set_option maxHeartbeats 1000000 in
theorem mulw_11 (g h c c' x0 y0 : Nat) (hx0 : x0 < 4294967296) (hy0 : y0 < 4294967296) (w : World) (cx0 : w.cell? ⟨g, 0, none⟩ = some (.int .u32 x0)) (cy0 : w.cell? ⟨h, 0, none⟩ = some (.int .u32 y0)) :
    Calls Tryz.prog 37 #[.slice (some ⟨g, 0, none⟩) 1 c, .slice (some ⟨h, 0, none⟩) 1 c'] w (NbNew w (x0 * y0)) := by
  have hp00 := words_le x0 y0 hx0 hy0
  have k00 : (x0 : Int) * (y0 : Int) = ((x0 * y0 : Nat) : Int) := (Int.natCast_mul _ _).symm
  rw [show x0 * y0 = x0 * y0 from rfl]
  generalize x0 * y0 = P00 at *
  obtain ⟨r00, er00⟩ : ∃ r, r = P00 % 4294967296 := ⟨_, rfl⟩
  obtain ⟨c00, ec00⟩ : ∃ c, c = P00 / 4294967296 := ⟨_, rfl⟩
  have br00 : r00 < 4294967296 := by omega
  have bc00 : c00 < 4294967296 := by omega
  have qa00 : IntKind.u64.wrap (P00 : Int) = (P00 : Int) := by rw [IntKind.wrap_u64]; omega
  have qd00 : IntKind.u32.wrap (P00 : Int) = (r00 : Int) := by rw [IntKind.wrap_u32]; omega
  have qe00 : (P00 : Int) / 4294967296 = (c00 : Int) := by omega
  have T := fun g w => Lib.hid (trim2 g 2 r00 c00 (P00) (by omega) (by omega) (by omega) (by omega) (by omega) w)
  have m := mkw2
  have s0 := lt_of_cell cx0
  have s1 := lt_of_cell cy0
  clear er00 ec00 hp00
  go_enter Tryz.func37, Tryz.ntmps37
  go_wp2_with fail
  refine wp_loop_rounds 2 ?_
  rw [rounds_succ]
  go_wp2_with fail
  refine wp_loop_rounds 2 ?_
  rw [rounds_succ]
  go_wp2_with fail
  go_quiet (fail)
  go_wp2_with fail
  rw [rounds_succ]
  go_wp2_with fail
  rw [rounds_succ]
  go_wp2_with fail
  refine ((T _ _).out ?c0 ?c1).mono ?_
  case c0 =>
    apply row_cell (t := 76)
    · repeat (with_reducible first | exact rowN _ _ | apply rowS | apply rowD)
    · rfl
  case c1 =>
    apply row_cell (t := 76)
    · repeat (with_reducible first | exact rowN _ _ | apply rowS | apply rowD)
    · rfl
  rintro e w' ⟨a, l, c, rfl, hn, rfl⟩
  replace hn := Lib.hid hn
  go_wp2_with fail
  go_ret
  refine ⟨a, l, c, rfl, hn.out, ?_⟩
  repeat (with_reducible first | exact bl_one _ _ | refine belS ?_ _ _ _ (Nat.le_refl _) | refine bl_drewN ?_ _)

set_option maxRecDepth 100000 in
set_option maxHeartbeats 1000000 in
theorem mulw_12 (g h c c' x0 y0 y1 : Nat) (hx0 : x0 < 4294967296) (hy0 : y0 < 4294967296) (hy1 : y1 < 4294967296) (w : World) (cx0 : w.cell? ⟨g, 0, none⟩ = some (.int .u32 x0)) (cy0 : w.cell? ⟨h, 0, none⟩ = some (.int .u32 y0)) (cy1 : w.cell? ⟨h, 1, none⟩ = some (.int .u32 y1)) :
    Calls Tryz.prog 37 #[.slice (some ⟨g, 0, none⟩) 1 c, .slice (some ⟨h, 0, none⟩) 2 c'] w (NbNew w (x0 * (y1 * 4294967296 + y0))) := by
  have hp00 := words_le x0 y0 hx0 hy0
  have k00 : (x0 : Int) * (y0 : Int) = ((x0 * y0 : Nat) : Int) := (Int.natCast_mul _ _).symm
  have hp01 := words_le x0 y1 hx0 hy1
  have k01 : (x0 : Int) * (y1 : Int) = ((x0 * y1 : Nat) : Int) := (Int.natCast_mul _ _).symm
  rw [show x0 * (y1 * 4294967296 + y0) = x0 * y1 * 4294967296 + x0 * y0 from by rw [Nat.mul_add, Nat.mul_assoc]]
  generalize x0 * y0 = P00 at *
  generalize x0 * y1 = P01 at *
  obtain ⟨r00, er00⟩ : ∃ r, r = P00 % 4294967296 := ⟨_, rfl⟩
  obtain ⟨c00, ec00⟩ : ∃ c, c = P00 / 4294967296 := ⟨_, rfl⟩
  have br00 : r00 < 4294967296 := by omega
  have bc00 : c00 < 4294967296 := by omega
  obtain ⟨r01, er01⟩ : ∃ r, r = (c00 + P01) % 4294967296 := ⟨_, rfl⟩
  obtain ⟨c01, ec01⟩ : ∃ c, c = (c00 + P01) / 4294967296 := ⟨_, rfl⟩
  have br01 : r01 < 4294967296 := by omega
  have bc01 : c01 < 4294967296 := by omega
  have qa00 : IntKind.u64.wrap (P00 : Int) = (P00 : Int) := by rw [IntKind.wrap_u64]; omega
  have qd00 : IntKind.u32.wrap (P00 : Int) = (r00 : Int) := by rw [IntKind.wrap_u32]; omega
  have qe00 : (P00 : Int) / 4294967296 = (c00 : Int) := by omega
  have qa01 : IntKind.u64.wrap (P01 : Int) = (P01 : Int) := by rw [IntKind.wrap_u64]; omega
  have qc01 : IntKind.u64.wrap ((c00 : Int) + (P01 : Int)) = ((c00 : Int) + (P01 : Int)) := by rw [IntKind.wrap_u64]; omega
  have qd01 : IntKind.u32.wrap ((c00 : Int) + (P01 : Int)) = (r01 : Int) := by rw [IntKind.wrap_u32]; omega
  have qe01 : ((c00 : Int) + (P01 : Int)) / 4294967296 = (c01 : Int) := by omega
  have T := fun g w => Lib.hid (trim3 g 3 r00 r01 c01 (P01 * 4294967296 + P00) (by omega) (by omega) (by omega) (by omega) (by omega) (by omega) w)
  have m := mkw3
  have s0 := lt_of_cell cx0
  have s1 := lt_of_cell cy0
  clear er00 ec00 hp00 er01 ec01 hp01
  go_enter Tryz.func37, Tryz.ntmps37
  go_wp2_with fail
  refine wp_loop_rounds 2 ?_
  rw [rounds_succ]
  go_wp2_with fail
  refine wp_loop_rounds 3 ?_
  rw [rounds_succ]
  go_wp2_with fail
  go_quiet (fail)
  go_wp2_with fail
  rw [rounds_succ]
  go_wp2_with fail
  go_quiet (fail)
  go_wp2_with fail
  rw [rounds_succ]
  go_wp2_with fail
  rw [rounds_succ]
  go_wp2_with fail
  refine ((T _ _).out ?c0 ?c1 ?c2).mono ?_
  case c0 =>
    apply row_cell (t := 76)
    · repeat (with_reducible first | exact rowN _ _ | apply rowS | apply rowD)
    · rfl
  case c1 =>
    apply row_cell (t := 76)
    · repeat (with_reducible first | exact rowN _ _ | apply rowS | apply rowD)
    · rfl
  case c2 =>
    apply row_cell (t := 76)
    · repeat (with_reducible first | exact rowN _ _ | apply rowS | apply rowD)
    · rfl
  rintro e w' ⟨a, l, c, rfl, hn, rfl⟩
  replace hn := Lib.hid hn
  go_wp2_with fail
  go_ret
  refine ⟨a, l, c, rfl, hn.out, ?_⟩
  repeat (with_reducible first | exact bl_one _ _ | refine belS ?_ _ _ _ (Nat.le_refl _) | refine bl_drewN ?_ _)

set_option maxRecDepth 100000 in
set_option maxHeartbeats 1000000 in
theorem mulw_21 (g h c c' x0 x1 y0 : Nat) (hx0 : x0 < 4294967296) (hx1 : x1 < 4294967296) (hy0 : y0 < 4294967296) (w : World) (cx0 : w.cell? ⟨g, 0, none⟩ = some (.int .u32 x0)) (cx1 : w.cell? ⟨g, 1, none⟩ = some (.int .u32 x1)) (cy0 : w.cell? ⟨h, 0, none⟩ = some (.int .u32 y0)) :
    Calls Tryz.prog 37 #[.slice (some ⟨g, 0, none⟩) 2 c, .slice (some ⟨h, 0, none⟩) 1 c'] w (NbNew w ((x1 * 4294967296 + x0) * y0)) := by
  have hp00 := words_le x0 y0 hx0 hy0
  have k00 : (x0 : Int) * (y0 : Int) = ((x0 * y0 : Nat) : Int) := (Int.natCast_mul _ _).symm
  have hp10 := words_le x1 y0 hx1 hy0
  have k10 : (x1 : Int) * (y0 : Int) = ((x1 * y0 : Nat) : Int) := (Int.natCast_mul _ _).symm
  rw [show (x1 * 4294967296 + x0) * y0 = x1 * y0 * 4294967296 + x0 * y0 from by rw [Nat.add_mul, Nat.mul_right_comm]]
  generalize x0 * y0 = P00 at *
  generalize x1 * y0 = P10 at *
  obtain ⟨r00, er00⟩ : ∃ r, r = P00 % 4294967296 := ⟨_, rfl⟩
  obtain ⟨c00, ec00⟩ : ∃ c, c = P00 / 4294967296 := ⟨_, rfl⟩
  have br00 : r00 < 4294967296 := by omega
  have bc00 : c00 < 4294967296 := by omega
  obtain ⟨r10, er10⟩ : ∃ r, r = (P10 + c00) % 4294967296 := ⟨_, rfl⟩
  obtain ⟨c10, ec10⟩ : ∃ c, c = (P10 + c00) / 4294967296 := ⟨_, rfl⟩
  have br10 : r10 < 4294967296 := by omega
  have bc10 : c10 < 4294967296 := by omega
  have qa00 : IntKind.u64.wrap (P00 : Int) = (P00 : Int) := by rw [IntKind.wrap_u64]; omega
  have qd00 : IntKind.u32.wrap (P00 : Int) = (r00 : Int) := by rw [IntKind.wrap_u32]; omega
  have qe00 : (P00 : Int) / 4294967296 = (c00 : Int) := by omega
  have qa10 : IntKind.u64.wrap (P10 : Int) = (P10 : Int) := by rw [IntKind.wrap_u64]; omega
  have qb10 : IntKind.u64.wrap ((P10 : Int) + (c00 : Int)) = ((P10 : Int) + (c00 : Int)) := by rw [IntKind.wrap_u64]; omega
  have qd10 : IntKind.u32.wrap ((P10 : Int) + (c00 : Int)) = (r10 : Int) := by rw [IntKind.wrap_u32]; omega
  have qe10 : ((P10 : Int) + (c00 : Int)) / 4294967296 = (c10 : Int) := by omega
  have T := fun g w => Lib.hid (trim3 g 3 r00 r10 c10 (P10 * 4294967296 + P00) (by omega) (by omega) (by omega) (by omega) (by omega) (by omega) w)
  have m := mkw3
  have s0 := lt_of_cell cx0
  have s1 := lt_of_cell cy0
  clear er00 ec00 hp00 er10 ec10 hp10
  go_enter Tryz.func37, Tryz.ntmps37
  go_wp2_with fail
  refine wp_loop_rounds 3 ?_
  rw [rounds_succ]
  go_wp2_with fail
  refine wp_loop_rounds 2 ?_
  rw [rounds_succ]
  go_wp2_with fail
  go_quiet (fail)
  go_wp2_with fail
  rw [rounds_succ]
  go_wp2_with fail
  rw [rounds_succ]
  go_wp2_with fail
  refine wp_loop_rounds 2 ?_
  rw [rounds_succ]
  go_wp2_with fail
  go_quiet (fail)
  go_wp2_with fail
  rw [rounds_succ]
  go_wp2_with fail
  rw [rounds_succ]
  go_wp2_with fail
  refine ((T _ _).out ?c0 ?c1 ?c2).mono ?_
  case c0 =>
    apply row_cell (t := 76)
    · repeat (with_reducible first | exact rowN _ _ | apply rowS | apply rowD)
    · rfl
  case c1 =>
    apply row_cell (t := 76)
    · repeat (with_reducible first | exact rowN _ _ | apply rowS | apply rowD)
    · rfl
  case c2 =>
    apply row_cell (t := 76)
    · repeat (with_reducible first | exact rowN _ _ | apply rowS | apply rowD)
    · rfl
  rintro e w' ⟨a, l, c, rfl, hn, rfl⟩
  replace hn := Lib.hid hn
  go_wp2_with fail
  go_ret
  refine ⟨a, l, c, rfl, hn.out, ?_⟩
  repeat (with_reducible first | exact bl_one _ _ | refine belS ?_ _ _ _ (Nat.le_refl _) | refine bl_drewN ?_ _)

set_option maxRecDepth 100000 in
set_option maxHeartbeats 1000000 in
theorem mulw_22 (g h c c' x0 x1 y0 y1 : Nat) (hx0 : x0 < 4294967296) (hx1 : x1 < 4294967296) (hy0 : y0 < 4294967296) (hy1 : y1 < 4294967296) (hlt : x1 < 65536) (hlt' : y1 < 65536) (w : World) (cx0 : w.cell? ⟨g, 0, none⟩ = some (.int .u32 x0)) (cx1 : w.cell? ⟨g, 1, none⟩ = some (.int .u32 x1)) (cy0 : w.cell? ⟨h, 0, none⟩ = some (.int .u32 y0)) (cy1 : w.cell? ⟨h, 1, none⟩ = some (.int .u32 y1)) :
    Calls Tryz.prog 37 #[.slice (some ⟨g, 0, none⟩) 2 c, .slice (some ⟨h, 0, none⟩) 2 c'] w (NbNew w ((x1 * 4294967296 + x0) * (y1 * 4294967296 + y0))) := by
  have hp00 := words_le x0 y0 hx0 hy0
  have k00 : (x0 : Int) * (y0 : Int) = ((x0 * y0 : Nat) : Int) := (Int.natCast_mul _ _).symm
  have hp01 := words_le x0 y1 hx0 hy1
  have k01 : (x0 : Int) * (y1 : Int) = ((x0 * y1 : Nat) : Int) := (Int.natCast_mul _ _).symm
  have hp10 := words_le x1 y0 hx1 hy0
  have k10 : (x1 : Int) * (y0 : Int) = ((x1 * y0 : Nat) : Int) := (Int.natCast_mul _ _).symm
  have hp11 := words_le x1 y1 hx1 hy1
  have k11 : (x1 : Int) * (y1 : Int) = ((x1 * y1 : Nat) : Int) := (Int.natCast_mul _ _).symm
  have hq10 : x1 * y0 ≤ 281470681677825 := Nat.mul_le_mul (n₁ := x1) (m₁ := y0) (n₂ := 65535) (m₂ := 4294967295) (by omega) (by omega)
  have hq01 : x0 * y1 ≤ 281470681677825 := Nat.mul_le_mul (n₁ := x0) (m₁ := y1) (n₂ := 4294967295) (m₂ := 65535) (by omega) (by omega)
  have hq11 : x1 * y1 ≤ 4294836225 := Nat.mul_le_mul (n₁ := x1) (m₁ := y1) (n₂ := 65535) (m₂ := 65535) (by omega) (by omega)
  rw [show (x1 * 4294967296 + x0) * (y1 * 4294967296 + y0) = x1 * y1 * 18446744073709551616 + (x1 * y0 + x0 * y1) * 4294967296 + x0 * y0 from mul22 x0 x1 y0 y1]
  generalize x0 * y0 = P00 at *
  generalize x0 * y1 = P01 at *
  generalize x1 * y0 = P10 at *
  generalize x1 * y1 = P11 at *
  obtain ⟨r00, er00⟩ : ∃ r, r = P00 % 4294967296 := ⟨_, rfl⟩
  obtain ⟨c00, ec00⟩ : ∃ c, c = P00 / 4294967296 := ⟨_, rfl⟩
  have br00 : r00 < 4294967296 := by omega
  have bc00 : c00 < 4294967296 := by omega
  obtain ⟨r01, er01⟩ : ∃ r, r = (c00 + P01) % 4294967296 := ⟨_, rfl⟩
  obtain ⟨c01, ec01⟩ : ∃ c, c = (c00 + P01) / 4294967296 := ⟨_, rfl⟩
  have br01 : r01 < 4294967296 := by omega
  have bc01 : c01 < 4294967296 := by omega
  obtain ⟨r10, er10⟩ : ∃ r, r = (P10 + r01) % 4294967296 := ⟨_, rfl⟩
  obtain ⟨c10, ec10⟩ : ∃ c, c = (P10 + r01) / 4294967296 := ⟨_, rfl⟩
  have br10 : r10 < 4294967296 := by omega
  have bc10 : c10 < 4294967296 := by omega
  obtain ⟨r11, er11⟩ : ∃ r, r = (c10 + (P11 + c01)) % 4294967296 := ⟨_, rfl⟩
  obtain ⟨c11, ec11⟩ : ∃ c, c = (c10 + (P11 + c01)) / 4294967296 := ⟨_, rfl⟩
  have br11 : r11 < 4294967296 := by omega
  have bc11 : c11 < 4294967296 := by omega
  have qa00 : IntKind.u64.wrap (P00 : Int) = (P00 : Int) := by rw [IntKind.wrap_u64]; omega
  have qd00 : IntKind.u32.wrap (P00 : Int) = (r00 : Int) := by rw [IntKind.wrap_u32]; omega
  have qe00 : (P00 : Int) / 4294967296 = (c00 : Int) := by omega
  have qa01 : IntKind.u64.wrap (P01 : Int) = (P01 : Int) := by rw [IntKind.wrap_u64]; omega
  have qc01 : IntKind.u64.wrap ((c00 : Int) + (P01 : Int)) = ((c00 : Int) + (P01 : Int)) := by rw [IntKind.wrap_u64]; omega
  have qd01 : IntKind.u32.wrap ((c00 : Int) + (P01 : Int)) = (r01 : Int) := by rw [IntKind.wrap_u32]; omega
  have qe01 : ((c00 : Int) + (P01 : Int)) / 4294967296 = (c01 : Int) := by omega
  have qa10 : IntKind.u64.wrap (P10 : Int) = (P10 : Int) := by rw [IntKind.wrap_u64]; omega
  have qb10 : IntKind.u64.wrap ((P10 : Int) + (r01 : Int)) = ((P10 : Int) + (r01 : Int)) := by rw [IntKind.wrap_u64]; omega
  have qd10 : IntKind.u32.wrap ((P10 : Int) + (r01 : Int)) = (r10 : Int) := by rw [IntKind.wrap_u32]; omega
  have qe10 : ((P10 : Int) + (r01 : Int)) / 4294967296 = (c10 : Int) := by omega
  have qa11 : IntKind.u64.wrap (P11 : Int) = (P11 : Int) := by rw [IntKind.wrap_u64]; omega
  have qb11 : IntKind.u64.wrap ((P11 : Int) + (c01 : Int)) = ((P11 : Int) + (c01 : Int)) := by rw [IntKind.wrap_u64]; omega
  have qc11 : IntKind.u64.wrap ((c10 : Int) + ((P11 : Int) + (c01 : Int))) = ((c10 : Int) + ((P11 : Int) + (c01 : Int))) := by rw [IntKind.wrap_u64]; omega
  have qd11 : IntKind.u32.wrap ((c10 : Int) + ((P11 : Int) + (c01 : Int))) = (r11 : Int) := by rw [IntKind.wrap_u32]; omega
  have qe11 : ((c10 : Int) + ((P11 : Int) + (c01 : Int))) / 4294967296 = (c11 : Int) := by omega
  have hz : c11 = 0 := by omega
  have T := fun g w => Lib.hid (trim4 g 4 r00 r10 r11 (P11 * 18446744073709551616 + (P10 + P01) * 4294967296 + P00) (by omega) (by omega) (by omega) (by omega) (by omega) (by omega) w)
  have HZ := Lib.hid hz
  have m := mkw4
  have s0 := lt_of_cell cx0
  have s1 := lt_of_cell cy0
  clear er00 ec00 hp00 er01 ec01 hp01 er10 ec10 hp10 er11 ec11 hp11 hz hlt hlt' hq10 hq01 hq11
  go_enter Tryz.func37, Tryz.ntmps37
  go_wp2_with fail
  refine wp_loop_rounds 3 ?_
  rw [rounds_succ]
  go_wp2_with fail
  refine wp_loop_rounds 3 ?_
  rw [rounds_succ]
  go_wp2_with fail
  go_quiet (fail)
  go_wp2_with fail
  rw [rounds_succ]
  go_wp2_with fail
  go_quiet (fail)
  go_wp2_with fail
  rw [rounds_succ]
  go_wp2_with fail
  rw [rounds_succ]
  go_wp2_with fail
  refine wp_loop_rounds 3 ?_
  rw [rounds_succ]
  go_wp2_with fail
  go_quiet (fail)
  go_wp2_with fail
  rw [rounds_succ]
  go_wp2_with fail
  go_quiet (fail)
  go_wp2_with fail
  rw [rounds_succ]
  go_wp2_with fail
  rw [rounds_succ]
  go_wp2_with fail
  refine ((T _ _).out ?c0 ?c1 ?c2 ?c3).mono ?_
  case c0 =>
    apply row_cell (t := 76)
    · repeat (with_reducible first | exact rowN _ _ | apply rowS | apply rowD)
    · rfl
  case c1 =>
    apply row_cell (t := 76)
    · repeat (with_reducible first | exact rowN _ _ | apply rowS | apply rowD)
    · rfl
  case c2 =>
    apply row_cell (t := 76)
    · repeat (with_reducible first | exact rowN _ _ | apply rowS | apply rowD)
    · rfl
  case c3 =>
    apply row_cell (t := 76)
    · repeat (with_reducible first | exact rowN _ _ | apply rowS | apply rowD)
    · rw [← show (c11 : Int) = 0 from by rw [HZ.out]; rfl]; rfl
  rintro e w' ⟨a, l, c, rfl, hn, rfl⟩
  replace hn := Lib.hid hn
  go_wp2_with fail
  go_ret
  refine ⟨a, l, c, rfl, hn.out, ?_⟩
  repeat (with_reducible first | exact bl_one _ _ | refine belS ?_ _ _ _ (Nat.le_refl _) | refine bl_drewN ?_ _)

end Go.Proofs.YtbmjghgiipibnaaGreatDoor
