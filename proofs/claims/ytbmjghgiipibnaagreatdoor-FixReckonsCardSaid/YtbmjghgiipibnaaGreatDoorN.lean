/- WALKS of math/big's IsInt64, Int64, Sign; fix.fits. -/
import Derived.Test.YtbmjghgiipibnaaGreatDoorL
namespace Go.Proofs.YtbmjghgiipibnaaGreatDoor
open Go.RowKit
set_option linter.unusedVariables false

/-- low64 of a number as it lies -/
theorem low64Q {w : World} {g n : Nat} {v : Value} (h : NatQ w g v n) (hn : n < 18446744073709551616) : Calls Tryz.prog 50 #[v] w fun e w' => e = .returned (.int .u64 n) ∧ w = w' := by
  rcases h with ⟨rfl, rfl⟩ | ⟨rfl, rfl, d⟩ | ⟨a, b, rfl, d⟩ | ⟨a, b, rfl, d⟩ | ⟨lo, hi, rfl, a, b, c, rfl, d⟩
  · exact low64_nil w
  · exact low64_zero _ _ w
  · exact low64_one g 1 n w (cell_row d 0)
  · exact low64_one g 6 n w (cell_row d 0)
  · omega

theorem NatQ.short {w : World} {g n : Nat} {a : Option Addr} {l c : Nat} (h : NatQ w g (.slice a l c) n) (hn : n < 18446744073709551616) : l ≤ 1 := by
  rcases h with ⟨rfl, h⟩ | ⟨rfl, h, _⟩ | ⟨h0, _, h, _⟩ | ⟨h0, _, h, _⟩ | ⟨lo, hi, rfl, h0, _, _, h, _⟩
  · cases h; omega
  · cases h; omega
  · cases h; omega
  · cases h; omega
  · omega
theorem NatQ.long {w : World} {g n : Nat} {a : Option Addr} {l c : Nat} (h : NatQ w g (.slice a l c) n) (hn : 18446744073709551616 ≤ n) : l = 2 := by
  rcases h with ⟨rfl, h⟩ | ⟨rfl, h, _⟩ | ⟨h0, _, h, _⟩ | ⟨h0, _, h, _⟩ | ⟨lo, hi, rfl, h0, _, _, h, _⟩
  · omega
  · omega
  · omega
  · omega
  · cases h; omega

theorem isInt64_small (p g n : Nat) (neg : Bool) (v : Value) (w : World) (hp : St w p neg v) (nq : NatQ w g v n) (hn : n < 9223372036854775808) :
    Calls Tryz.prog 33 #[.pointer (some ⟨p, 0, none⟩)] w fun e w' => e = .returned (.bool true) ∧ w = w' := by
  obtain ⟨a, l, c, rfl⟩ := nq.slice
  have c1 : w.cell? ⟨p, 1, none⟩ = some (.slice a l c) := cell_row hp 1
  have c0 : w.cell? ⟨p, 0, none⟩ = some (.bool neg) := cell_row hp 0
  have hl := nq.short (by omega)
  have C := Lib.hid (low64Q nq (by omega))
  clear hp nq
  go_enter Tryz.func33, Tryz.ntmps33
  go_wp2_with fail
  refine C.out.mono ?_
  rintro e w' ⟨rfl, rfl⟩
  go_wp2_with fail
  go_ret
  exact ⟨rfl, rfl⟩

theorem isInt64_two (p g n : Nat) (neg : Bool) (v : Value) (w : World) (hp : St w p neg v) (nq : NatQ w g v n) (hn : 18446744073709551616 ≤ n) :
    Calls Tryz.prog 33 #[.pointer (some ⟨p, 0, none⟩)] w fun e w' => e = .returned (.bool false) ∧ w = w' := by
  obtain ⟨a, l, c, rfl⟩ := nq.slice
  obtain rfl := nq.long hn
  have c1 : w.cell? ⟨p, 1, none⟩ = some (.slice a 2 c) := cell_row hp 1
  clear hp nq hn
  go_enter Tryz.func33, Tryz.ntmps33
  go_wp2_with fail
  go_ret
  exact ⟨rfl, rfl⟩

theorem wrap_high (n : Nat) (h1 : 9223372036854775808 ≤ n) (h2 : n < 18446744073709551616) : IntKind.i64.wrap (n : Int) = -((18446744073709551616 - n : Nat) : Int) := by
  rw [IntKind.wrap_i64]; omega

/-- one word beyond the middle: an int64 only as the least one -/
theorem isInt64_big (p g n : Nat) (neg : Bool) (v : Value) (w : World) (hp : St w p neg v) (nq : NatQ w g v n) (h1 : 9223372036854775808 < n ∨ neg = false) (h1' : 9223372036854775808 ≤ n) (hn : n < 18446744073709551616) :
    Calls Tryz.prog 33 #[.pointer (some ⟨p, 0, none⟩)] w fun e w' => e = .returned (.bool false) ∧ w = w' := by
  obtain ⟨a, l, c, rfl⟩ := nq.slice
  have c1 : w.cell? ⟨p, 1, none⟩ = some (.slice a l c) := cell_row hp 1
  have c0 : w.cell? ⟨p, 0, none⟩ = some (.bool neg) := cell_row hp 0
  have hl := nq.short (by omega)
  have C := Lib.hid (low64Q nq (by omega))
  have hw := wrap_high n h1' hn
  obtain ⟨m, hm⟩ : ∃ m : Nat, m = 18446744073709551616 - n := ⟨_, rfl⟩
  rw [← hm] at hw
  clear hp nq
  by_cases hneg : neg = false
  · subst hneg
    have hm0 : 0 < m := by omega
    have hm1 : m ≤ 9223372036854775808 := by omega
    clear hm h1 h1' hn
    go_enter Tryz.func33, Tryz.ntmps33
    go_wp2_with fail
    refine C.out.mono ?_
    rintro e w' ⟨rfl, rfl⟩
    go_wp2_with fail
    go_ret
    exact ⟨rfl, rfl⟩
  · obtain rfl : neg = true := by simpa using hneg
    have hm0 : 0 < m := by omega
    have hm1 : m < 9223372036854775808 := by have : 9223372036854775808 < n := by simpa using h1
                                             omega
    have hq : (-(m : Int) == (m : Int)) = false := by rw [beq_eq_false_iff_ne]; omega
    clear hm h1 h1' hn hneg
    go_enter Tryz.func33, Tryz.ntmps33
    go_wp2_with fail
    refine C.out.mono ?_
    rintro e w' ⟨rfl, rfl⟩
    go_wp2_with fail
    go_ret
    exact ⟨rfl, rfl⟩

theorem isInt64_min (p g n : Nat) (v : Value) (w : World) (hp : St w p true v) (nq : NatQ w g v n) (hn : n = 9223372036854775808) :
    Calls Tryz.prog 33 #[.pointer (some ⟨p, 0, none⟩)] w fun e w' => e = .returned (.bool true) ∧ w = w' := by
  obtain ⟨a, l, c, rfl⟩ := nq.slice
  have c1 : w.cell? ⟨p, 1, none⟩ = some (.slice a l c) := cell_row hp 1
  have c0 : w.cell? ⟨p, 0, none⟩ = some (.bool true) := cell_row hp 0
  have hl := nq.short (by omega)
  have C := Lib.hid (low64Q nq (by omega))
  have hw : IntKind.i64.wrap (n : Int) = -9223372036854775808 := by rw [IntKind.wrap_i64]; omega
  have hw2 : IntKind.i64.wrap (9223372036854775808 : Int) = -9223372036854775808 := by kernel_rfl
  clear hp nq hn
  go_enter Tryz.func33, Tryz.ntmps33
  go_wp2_with fail
  refine C.out.mono ?_
  rintro e w' ⟨rfl, rfl⟩
  go_wp2_with fail
  go_ret
  exact ⟨rfl, rfl⟩

theorem int64_min (p g n : Nat) (v : Value) (w : World) (hp : St w p true v) (nq : NatQ w g v n) (hn : n = 9223372036854775808) :
    Calls Tryz.prog 34 #[.pointer (some ⟨p, 0, none⟩)] w fun e w' => e = .returned (.int .i64 (-9223372036854775808)) ∧ w = w' := by
  obtain ⟨a, l, c, rfl⟩ := nq.slice
  have c1 : w.cell? ⟨p, 1, none⟩ = some (.slice a l c) := cell_row hp 1
  have c0 : w.cell? ⟨p, 0, none⟩ = some (.bool true) := cell_row hp 0
  have C := Lib.hid (low64Q nq (by omega))
  have hw : IntKind.i64.wrap (n : Int) = -9223372036854775808 := by rw [IntKind.wrap_i64]; omega
  have hw2 : IntKind.i64.wrap (9223372036854775808 : Int) = -9223372036854775808 := by kernel_rfl
  clear hp nq hn
  go_enter Tryz.func34, Tryz.ntmps34
  go_wp2_with fail
  refine C.out.mono ?_
  rintro e w' ⟨rfl, rfl⟩
  go_wp2_with fail
  go_ret
  exact ⟨rfl, rfl⟩

theorem int64_small (p g n : Nat) (neg : Bool) (v : Value) (w : World) (hp : St w p neg v) (nq : NatQ w g v n) (hn : n < 9223372036854775808) (z : Int) (hz : z = if neg then -(n : Int) else n) :
    Calls Tryz.prog 34 #[.pointer (some ⟨p, 0, none⟩)] w fun e w' => e = .returned (.int .i64 z) ∧ w = w' := by
  obtain ⟨a, l, c, rfl⟩ := nq.slice
  have c1 : w.cell? ⟨p, 1, none⟩ = some (.slice a l c) := cell_row hp 1
  have c0 : w.cell? ⟨p, 0, none⟩ = some (.bool neg) := cell_row hp 0
  have C := Lib.hid (low64Q nq (by omega))
  clear hp nq
  cases neg
  · simp at hz; subst hz
    go_enter Tryz.func34, Tryz.ntmps34
    go_wp2_with fail
    refine C.out.mono ?_
    rintro e w' ⟨rfl, rfl⟩
    go_wp2_with fail
    go_ret
    exact ⟨rfl, rfl⟩
  · simp at hz; subst hz
    go_enter Tryz.func34, Tryz.ntmps34
    go_wp2_with fail
    refine C.out.mono ?_
    rintro e w' ⟨rfl, rfl⟩
    go_wp2_with fail
    go_ret
    exact ⟨rfl, rfl⟩

theorem sign_nought (p g : Nat) (neg : Bool) (v : Value) (w : World) (hp : St w p neg v) (nn : NatN w g v 0) :
    Calls Tryz.prog 31 #[.pointer (some ⟨p, 0, none⟩)] w fun e w' => e = .returned (.int .i64 0) ∧ w = w' := by
  obtain ⟨a, l, c, rfl⟩ := nn.slice
  have hl : l = 0 := by
    rcases nn with ⟨_, h⟩ | ⟨h0, _, h, _⟩
    · cases h; rfl
    · omega
  subst hl
  have c1 : w.cell? ⟨p, 1, none⟩ = some (.slice a 0 c) := cell_row hp 1
  clear hp nn
  go_enter Tryz.func31, Tryz.ntmps31
  go_wp2_with fail
  go_ret
  exact ⟨rfl, rfl⟩

theorem sign_some (p g n : Nat) (neg : Bool) (v : Value) (w : World) (hp : St w p neg v) (nn : NatN w g v n) (h0 : 0 < n) :
    Calls Tryz.prog 31 #[.pointer (some ⟨p, 0, none⟩)] w fun e w' => e = .returned (.int .i64 (if neg then -1 else 1)) ∧ w = w' := by
  rcases nn with ⟨rfl, _⟩ | ⟨_, _, rfl, _⟩
  · omega
  have c1 : w.cell? ⟨p, 1, none⟩ = some (.slice (some ⟨g, 0, none⟩) 1 1) := cell_row hp 1
  have c0 : w.cell? ⟨p, 0, none⟩ = some (.bool neg) := cell_row hp 0
  clear hp
  cases neg
  all_goals
    go_enter Tryz.func31, Tryz.ntmps31
    go_wp2_with fail
    go_ret
    exact ⟨rfl, rfl⟩

theorem fits_yes (x : Int) (h1 : -1099511627776 ≤ x) (h2 : x ≤ 1099511627776) (w : World) : Calls Tryz.prog 13 #[.int .i64 x] w fun e w' => e = .returned (.bool true) ∧ w = w' := by
  go_enter Tryz.func13, Tryz.ntmps13
  go_wp2_with fail
  go_ret
  exact ⟨rfl, rfl⟩
theorem fits_low (x : Int) (h1 : x < -1099511627776) (w : World) : Calls Tryz.prog 13 #[.int .i64 x] w fun e w' => e = .returned (.bool false) ∧ w = w' := by
  go_enter Tryz.func13, Tryz.ntmps13
  go_wp2_with fail
  go_ret
  exact ⟨rfl, rfl⟩
theorem fits_high (x : Int) (h2 : 1099511627776 < x) (w : World) : Calls Tryz.prog 13 #[.int .i64 x] w fun e w' => e = .returned (.bool false) ∧ w = w' := by
  have hb : decide (x ≤ 1099511627776) = false := by rw [decide_eq_false_iff_not]; omega
  go_enter Tryz.func13, Tryz.ntmps13
  go_wp2_with fail
  go_ret
  exact ⟨rfl, rfl⟩
end Go.Proofs.YtbmjghgiipibnaaGreatDoor
