/- WALKS of math/big's nat: divW, div, mul, at the shapes that are met. -/
import Derived.Test.YtbmjghgiipibnaaGreatDoorF
namespace Go.Proofs.YtbmjghgiipibnaaGreatDoor
open Go.RowKit
set_option linter.unusedVariables false

set_option maxRecDepth 100000 in
theorem mul_nil_nil (w : World) : Calls Tryz.prog 45 #[.slice none 0 0, .pointer none, .slice none 0 0, .slice none 0 0] w fun e w' => e = .returned (.slice none 0 0) ∧ w = w' := by
  go_enter Tryz.func45, Tryz.ntmps45
  go_wp2_with fail
  go_ret
  exact ⟨rfl, rfl⟩

theorem mul_one_nil (a : Addr) (k : Nat) (w : World) : Calls Tryz.prog 45 #[.slice none 0 0, .pointer none, .slice (some a) 1 k, .slice none 0 0] w fun e w' => e = .returned (.slice none 0 0) ∧ w = w' := by
  go_enter Tryz.func45, Tryz.ntmps45
  go_wp2_with fail
  go_ret
  exact ⟨rfl, rfl⟩

theorem mul_nil_one (a : Addr) (k : Nat) (w : World) : Calls Tryz.prog 45 #[.slice none 0 0, .pointer none, .slice none 0 0, .slice (some a) 1 k] w fun e w' => e = .returned (.slice none 0 0) ∧ w = w' := by
  go_enter Tryz.func45, Tryz.ntmps45
  go_wp2_with fail
  refine (mul_one_nil a k _).mono ?_
  rintro e w' ⟨rfl, rfl⟩
  go_wp2_with fail
  go_ret
  exact ⟨rfl, rfl⟩

theorem mul_one_one (g h x y H L : Nat) (k l : Nat) (hk1 : 1 ≤ k) (hk2 : k ≤ 100) (hl1 : 1 ≤ l) (hl2 : l ≤ 100) (hx0 : 0 < x) (hy0 : 0 < y) (hx : x < 18446744073709551616) (hy : y < 18446744073709551616) (hm : x * y = L + H * 18446744073709551616) (hL : L < 18446744073709551616) (hH : H < 18446744073709551616) (w : World)
    (h0 : w.cell? ⟨h, 0, none⟩ = some (.int .u64 x)) (h1 : w.cell? ⟨g, 0, none⟩ = some (.int .u64 y)) (n : Nat) (hn : n = if H = 0 then 1 else 2) :
    Calls Tryz.prog 45 #[.slice none 0 0, .pointer none, .slice (some ⟨h, 0, none⟩) 1 k, .slice (some ⟨g, 0, none⟩) 1 l] w fun e w' =>
      e = .returned (.slice (some ⟨w.heap.size, 0, none⟩) n 6) ∧ w.alloc (.cells #[.int .u64 L, .int .u64 H, .int .u64 0, .int .u64 0, .int .u64 0, .int .u64 0] 50) = w' := by
  have C := Lib.hid (fun w h0 => mulAddWW_any h x y H L k hk1 hk2 hx0 hy0 hx hy hm hL hH w h0 n hn)
  clear hn hm
  go_enter Tryz.func45, Tryz.ntmps45
  go_wp2_with fail
  refine (C.out _ h0).mono ?_
  rintro e w' ⟨rfl, rfl⟩
  go_wp2_with fail
  go_ret
  exact ⟨rfl, rfl⟩

/-- divW of nought -/
theorem divW_nil (y : Nat) (hy0 : 0 < y) (w : World) : Calls Tryz.prog 79 #[.slice none 0 0, .slice none 0 0, .int .u64 y] w fun e w' => e = .returned (.tuple #[.slice none 0 0, .int .u64 0]) ∧ w = w' := by
  have hb : ((y : Int) == 0) = false := by rw [beq_eq_false_iff_ne]; omega
  by_cases h1 : y = 1
  · subst h1
    go_enter Tryz.func79, Tryz.ntmps79
    go_wp2_with fail
    refine (set_nil _).mono ?_
    rintro e w' ⟨rfl, rfl⟩
    go_wp2_with fail
    go_ret2
    exact ⟨rfl, rfl⟩
  · have hb1 : ((y : Int) == 1) = false := by rw [beq_eq_false_iff_ne]; omega
    go_enter Tryz.func79, Tryz.ntmps79
    go_wp2_with fail
    go_ret2
    exact ⟨rfl, rfl⟩

/-- divW of one word -/
theorem divW_one (h k x y Q R : Nat) (hk1 : 1 ≤ k) (hk2 : k ≤ 100) (hx0 : 0 < x) (hx : x < 18446744073709551616) (hy : y < 18446744073709551616) (hq : x = Q * y + R) (hR : R < y) (w : World)
    (h0 : w.cell? ⟨h, 0, none⟩ = some (.int .u64 x)) (n : Nat) (hn : n = if Q = 0 then 0 else 1) :
    Calls Tryz.prog 79 #[.slice none 0 0, .slice (some ⟨h, 0, none⟩) 1 k, .int .u64 y] w fun e w' =>
      e = .returned (.tuple #[.slice (some ⟨w.heap.size, 0, none⟩) n 1, .int .u64 (R : Int)]) ∧ ∃ m, w' = (w.alloc (.cells #[.int .u64 Q] 50)).drewN m := by
  have hb : ((y : Int) == 0) = false := by rw [beq_eq_false_iff_ne]; omega
  by_cases h1 : y = 1
  · subst h1
    obtain rfl : R = 0 := by omega
    obtain rfl : x = Q := by omega
    rw [if_neg (by omega)] at hn
    subst hn
    clear hq
    go_enter Tryz.func79, Tryz.ntmps79
    go_wp2_with fail
    refine (set_one h k x hk1 hk2 _ h0).mono ?_
    rintro e w' ⟨rfl, rfl⟩
    go_wp2_with fail
    go_ret2
    exact ⟨rfl, 0, rfl⟩
  · have hb1 : ((y : Int) == 1) = false := by rw [beq_eq_false_iff_ne]; omega
    have C1 := fun w => Lib.hid (make_one w)
    have C2 := Lib.hid (fun g => divWVW_one g h 1 k x y Q R (by omega) (by omega) hk1 hk2 hx hy hq hR)
    clear hq hR hx hy
    go_enter Tryz.func79, Tryz.ntmps79
    go_wp2_with fail
    refine (C1 _).out.mono ?_
    rintro e w' ⟨rfl, rfl⟩
    go_wp2_with fail
    refine (C2.out _ (.int .u64 0) _ (cell_al h0 _) (by simp) (by simp)).mono ?_
    rintro e w' ⟨rfl, m, rfl⟩
    by_cases hz : Q = 0
    · rw [if_pos hz] at hn
      subst hn hz
      go_wp2_with fail
      refine (norm_nought _ 1 (by omega) (by omega) _ (by simp)).mono ?_
      rintro e w' ⟨rfl, rfl⟩
      go_wp2_with fail
      go_ret2
      exact ⟨rfl, m, rfl⟩
    · rw [if_neg hz] at hn
      subst hn
      go_wp2_with fail
      refine (norm_one _ 1 Q (by omega) (by omega) (by omega) _ (by simp)).mono ?_
      rintro e w' ⟨rfl, rfl⟩
      go_wp2_with fail
      go_ret2
      exact ⟨rfl, m, rfl⟩

/-- divW of two words, by 65536 -/
theorem divW_two (h x0 x1 : Nat) (hx0 : x0 < 18446744073709551616) (hx1 : x1 < 18446744073709551616) (hp : 0 < x1) (w : World)
    (h0 : w.cell? ⟨h, 0, none⟩ = some (.int .u64 x0)) (h1 : w.cell? ⟨h, 1, none⟩ = some (.int .u64 x1)) :
    Calls Tryz.prog 79 #[.slice none 0 0, .slice (some ⟨h, 0, none⟩) 2 6, .int .u64 65536] w fun e w' =>
      ∃ Q0 Q1 R n : Nat, e = .returned (.tuple #[.slice (some ⟨w.heap.size, 0, none⟩) n 6, .int .u64 (R : Int)]) ∧ (x1 * 18446744073709551616 + x0 = (Q1 * 18446744073709551616 + Q0) * 65536 + R ∧ Q0 < 18446744073709551616 ∧ R < 65536) ∧ (n = if Q1 = 0 then 1 else 2) ∧
        w.alloc (.cells #[.int .u64 Q0, .int .u64 Q1, .int .u64 0, .int .u64 0, .int .u64 0, .int .u64 0] 50) = w' := by
  have hh := lt_of_cell h0
  have C1 := fun w => Lib.hid (make_two none 0 0 (by omega) w)
  have C2 := Lib.hid (fun g => divWVW_two g h 6 6 x0 x1 (by omega) (by omega) (by omega) (by omega) hx0 hx1)
  clear hx0 hx1
  go_enter Tryz.func79, Tryz.ntmps79
  go_wp2_with fail
  refine (C1 _).out.mono ?_
  rintro e w' ⟨rfl, rfl⟩
  go_wp2_with fail
  refine (C2.out _ (.int .u64 0) (.int .u64 0) _ (by omega) (cell_al h0 _) (cell_al h1 _) (by simp) (by simp) (by simp) (by simp)).mono ?_
  rintro e w' ⟨Q0, Q1, R, rfl, hq, rfl⟩
  have HQ := Lib.hid hq
  have hpos : 0 < Q0 ∨ Q1 ≠ 0 := by omega
  clear hq
  by_cases hz : Q1 = 0
  · subst hz
    go_wp2_with fail
    refine (norm_two_one _ 6 Q0 (by omega) (by omega) (by omega) _ (by simp) (by simp)).mono ?_
    rintro e w' ⟨rfl, rfl⟩
    go_wp2_with fail
    go_ret2
    exact ⟨Q0, 0, R, 1, rfl, HQ.out, rfl, rfl⟩
  · go_wp2_with fail
    refine (norm_two _ 6 Q1 (by omega) (by omega) (by omega) _ (by simp)).mono ?_
    rintro e w' ⟨rfl, rfl⟩
    go_wp2_with fail
    go_ret2
    exact ⟨Q0, Q1, R, 2, rfl, HQ.out, by rw [if_neg hz], rfl⟩
end Go.Proofs.YtbmjghgiipibnaaGreatDoor
