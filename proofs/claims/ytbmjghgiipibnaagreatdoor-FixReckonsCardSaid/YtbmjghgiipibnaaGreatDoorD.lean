/- WALKS of math/big's nat: make, norm, setWord, at the lengths that are met. -/
import Derived.Test.YtbmjghgiipibnaaGreatDoorC
import Derived.Laws.Twins
namespace Go.Proofs.YtbmjghgiipibnaaGreatDoor
open Go.RowKit
set_option linter.unusedVariables false

theorem cell_al {w : World} {a : Addr} {v : Value} (h : w.cell? a = some v) (o : Obj) : (w.alloc o).cell? a = some v := cell_later ((Below.refl _ _).alloc (Nat.le_refl _) o) h
theorem lt_of_cell {w : World} {b i : Nat} {v : Value} (h : w.cell? ⟨b, i, none⟩ = some v) : b < w.heap.size := World.block_lt_of_cell? _ _ h
theorem mk1 (w : World) : (Instr.makeSlice 36 (.int .i64 1) (.int .i64 1)).run Tryz.prog w = .ok (.slice (some ⟨w.heap.size, 0, none⟩) 1 1) (w.alloc (.cells #[.int .u64 0] 50)) := by kernel_rfl
theorem mk2 (w : World) : (Instr.makeSlice 36 (.int .i64 2) (.int .i64 6)).run Tryz.prog w =
    .ok (.slice (some ⟨w.heap.size, 0, none⟩) 2 6) (w.alloc (.cells #[.int .u64 0, .int .u64 0, .int .u64 0, .int .u64 0, .int .u64 0, .int .u64 0] 50)) := by kernel_rfl

set_option maxHeartbeats 400000 in
theorem make_fits (a : Addr) (len cap n : Nat) (h : n ≤ cap) (hc : cap ≤ 100) (w : World) :
    Calls Tryz.prog 64 #[.slice (some a) len cap, .int .i64 n] w fun e w' => e = .returned (.slice (some a) n cap) ∧ w = w' := by
  go_enter Tryz.func64, Tryz.ntmps64
  go_wp2
  go_ret
  exact ⟨rfl, rfl⟩

set_option maxHeartbeats 400000 in
theorem make_nil (w : World) :
    Calls Tryz.prog 64 #[.slice none 0 0, .int .i64 0] w fun e w' => e = .returned (.slice none 0 0) ∧ w = w' := by
  go_enter Tryz.func64, Tryz.ntmps64
  go_wp2
  go_ret
  exact ⟨rfl, rfl⟩

set_option maxHeartbeats 400000 in
theorem make_one (w : World) :
    Calls Tryz.prog 64 #[.slice none 0 0, .int .i64 1] w fun e w' => e = .returned (.slice (some ⟨w.heap.size, 0, none⟩) 1 1) ∧ w.alloc (.cells #[.int .u64 0] 50) = w' := by
  have h := mk1
  go_enter Tryz.func64, Tryz.ntmps64
  go_wp2
  go_ret
  exact ⟨rfl, rfl⟩

set_option maxHeartbeats 400000 in
theorem make_two (a : Option Addr) (len cap : Nat) (hc : cap ≤ 1) (w : World) :
    Calls Tryz.prog 64 #[.slice a len cap, .int .i64 2] w fun e w' => e = .returned (.slice (some ⟨w.heap.size, 0, none⟩) 2 6) ∧ w.alloc (.cells #[.int .u64 0, .int .u64 0, .int .u64 0, .int .u64 0, .int .u64 0, .int .u64 0] 50) = w' := by
  have h := mk2
  go_enter Tryz.func64, Tryz.ntmps64
  go_wp2
  go_ret
  exact ⟨rfl, rfl⟩

/-- norm, one word that is not nought. -/
theorem norm_one (g cap a : Nat) (hc1 : 1 ≤ cap) (hc2 : cap ≤ 100) (ha : 0 < a) (w : World) (h0 : w.cell? ⟨g, 0, none⟩ = some (.int .u64 a)) :
    Calls Tryz.prog 66 #[.slice (some ⟨g, 0, none⟩) 1 cap] w fun e w' => e = .returned (.slice (some ⟨g, 0, none⟩) 1 cap) ∧ w = w' := by
  have hb : ((a : Int) == 0) = false := by rw [beq_eq_false_iff_ne]; omega
  go_enter Tryz.func66, Tryz.ntmps66
  go_wp2
  go_rounds 1
  go_ret
  exact ⟨rfl, rfl⟩

theorem norm_nought (g cap : Nat) (hc1 : 1 ≤ cap) (hc2 : cap ≤ 100) (w : World) (h0 : w.cell? ⟨g, 0, none⟩ = some (.int .u64 0)) :
    Calls Tryz.prog 66 #[.slice (some ⟨g, 0, none⟩) 1 cap] w fun e w' => e = .returned (.slice (some ⟨g, 0, none⟩) 0 cap) ∧ w = w' := by
  go_enter Tryz.func66, Tryz.ntmps66
  go_wp2
  go_rounds 2
  go_ret
  exact ⟨rfl, rfl⟩

theorem norm_two (g cap b : Nat) (hc1 : 2 ≤ cap) (hc2 : cap ≤ 100) (hb0 : 0 < b) (w : World) (h1 : w.cell? ⟨g, 1, none⟩ = some (.int .u64 b)) :
    Calls Tryz.prog 66 #[.slice (some ⟨g, 0, none⟩) 2 cap] w fun e w' => e = .returned (.slice (some ⟨g, 0, none⟩) 2 cap) ∧ w = w' := by
  have hb : ((b : Int) == 0) = false := by rw [beq_eq_false_iff_ne]; omega
  go_enter Tryz.func66, Tryz.ntmps66
  go_wp2
  go_rounds 1
  go_ret
  exact ⟨rfl, rfl⟩

theorem norm_two_one (g cap a : Nat) (hc1 : 2 ≤ cap) (hc2 : cap ≤ 100) (ha : 0 < a) (w : World) (h0 : w.cell? ⟨g, 0, none⟩ = some (.int .u64 a)) (h1 : w.cell? ⟨g, 1, none⟩ = some (.int .u64 0)) :
    Calls Tryz.prog 66 #[.slice (some ⟨g, 0, none⟩) 2 cap] w fun e w' => e = .returned (.slice (some ⟨g, 0, none⟩) 1 cap) ∧ w = w' := by
  have hb : ((a : Int) == 0) = false := by rw [beq_eq_false_iff_ne]; omega
  go_enter Tryz.func66, Tryz.ntmps66
  go_wp2
  go_rounds 2
  go_ret
  exact ⟨rfl, rfl⟩

theorem setWord_nought (w : World) :
    Calls Tryz.prog 80 #[.slice none 0 0, .int .u64 0] w fun e w' => e = .returned (.slice none 0 0) ∧ w = w' := by
  go_enter Tryz.func80, Tryz.ntmps80
  go_wp2_with fail
  go_ret
  exact ⟨rfl, rfl⟩

theorem setWord_one (x : Nat) (hx : 0 < x) (w : World) :
    Calls Tryz.prog 80 #[.slice none 0 0, .int .u64 x] w fun e w' => e = .returned (.slice (some ⟨w.heap.size, 0, none⟩) 1 1) ∧ w.alloc (.cells #[.int .u64 x] 50) = w' := by
  have hb : ((x : Int) == 0) = false := by rw [beq_eq_false_iff_ne]; omega
  have C := fun w => Lib.hid (make_one w)
  go_enter Tryz.func80, Tryz.ntmps80
  go_wp2_with fail
  refine (C _).out.mono ?_
  rintro e w' ⟨rfl, rfl⟩
  go_wp2_with fail
  go_ret
  exact ⟨rfl, rfl⟩

/-- mulAddVWW_g over one word. -/
theorem mulAddVWW_g_any (g h c x y H L : Nat) (hc1 : 1 ≤ c) (hc2 : c ≤ 100) (k : Nat) (hk1 : 1 ≤ k) (hk2 : k ≤ 100) (hx : x < 18446744073709551616) (hy : y < 18446744073709551616) (hm : x * y = L + H * 18446744073709551616) (hL : L < 18446744073709551616) (hH : H < 18446744073709551616) (w : World) (v : Value)
    (h0 : w.cell? ⟨h, 0, none⟩ = some (.int .u64 x)) (h1 : w.cell? ⟨g, 0, none⟩ = some v) (hf : w.frozen? ⟨g, 0, none⟩ = false) :
    Calls Tryz.prog 27 #[.slice (some ⟨g, 0, none⟩) 1 c, .slice (some ⟨h, 0, none⟩) 1 k, .int .u64 y, .int .u64 0] w fun e w' => e = .returned (.int .u64 (H : Int)) ∧ w.setCell ⟨g, 0, none⟩ (.int .u64 (L : Int)) = w' := by
  have C := Lib.hid (mulAdd_any x y H L hx hy hm hL hH)
  clear hm hx hy hL hH
  go_enter Tryz.func27, Tryz.ntmps27
  go_wp2
  refine wp_loop_rounds 2 ?_
  rw [rounds_succ]
  go_wp2_with fail
  refine (C.out _).mono ?_
  rintro e w' ⟨rfl, rfl⟩
  go_wp2_with fail
  rw [rounds_succ]
  go_wp2_with fail
  go_ret
  exact ⟨rfl, rfl⟩

theorem twin_mulAddVWW (args : Array Value) (w : World) : (callFunc 103 args).run Tryz.prog w = .ok (.enter 27 args) w :=
  run_callFunc_twin (twin := "math/big.mulAddVWW_g") Tryz.func103 (by kernel_rfl) (by kernel_rfl) (by kernel_rfl) (by kernel_rfl) Tryz.func27 (by kernel_rfl) (by kernel_rfl) (by kernel_rfl) args w

/-- mulAddWW into a new row: one word times one word. -/
theorem mulAddWW_any (h x y H L : Nat) (k : Nat) (hk1 : 1 ≤ k) (hk2 : k ≤ 100) (hx0 : 0 < x) (hy0 : 0 < y) (hx : x < 18446744073709551616) (hy : y < 18446744073709551616) (hm : x * y = L + H * 18446744073709551616) (hL : L < 18446744073709551616) (hH : H < 18446744073709551616) (w : World)
    (h0 : w.cell? ⟨h, 0, none⟩ = some (.int .u64 x)) (n : Nat) (hn : n = if H = 0 then 1 else 2) :
    Calls Tryz.prog 73 #[.slice none 0 0, .slice (some ⟨h, 0, none⟩) 1 k, .int .u64 y, .int .u64 0] w fun e w' =>
      e = .returned (.slice (some ⟨w.heap.size, 0, none⟩) n 6) ∧ w.alloc (.cells #[.int .u64 L, .int .u64 H, .int .u64 0, .int .u64 0, .int .u64 0, .int .u64 0] 50) = w' := by
  have hb : ((y : Int) == 0) = false := by rw [beq_eq_false_iff_ne]; omega
  have hp := Nat.mul_pos hx0 hy0
  have C1 := fun w => Lib.hid (make_two none 0 0 (by omega) w)
  have C2 := Lib.hid (fun g => mulAddVWW_g_any g h 6 x y H L (by omega) (by omega) k hk1 hk2 hx hy hm hL hH)
  have ht := twin_mulAddVWW
  have HP : 0 < L ∨ 0 < H := by rw [hm] at hp; omega
  clear hm hp hx hy
  go_enter Tryz.func73, Tryz.ntmps73
  go_wp2_with fail
  refine (C1 _).out.mono ?_
  rintro e w' ⟨rfl, rfl⟩
  go_wp2_with fail
  refine (C2.out _ _ (.int .u64 0) (cell_al h0 _) (by simp) (by simp)).mono ?_
  rintro e w' ⟨rfl, rfl⟩
  go_wp2_with fail
  by_cases hz : H = 0
  · subst hz
    refine (norm_two_one _ 6 L (by omega) (by omega) (by omega) _ (by simp) (by simp)).mono ?_
    rintro e w' ⟨rfl, rfl⟩
    go_wp2_with fail
    go_ret
    exact ⟨by rw [hn]; rfl, rfl⟩
  · rw [if_neg hz] at hn
    subst hn
    refine (norm_two _ 6 H (by omega) (by omega) (by omega) _ (by simp)).mono ?_
    rintro e w' ⟨rfl, rfl⟩
    go_wp2_with fail
    go_ret
    exact ⟨rfl, rfl⟩
end Go.Proofs.YtbmjghgiipibnaaGreatDoor
