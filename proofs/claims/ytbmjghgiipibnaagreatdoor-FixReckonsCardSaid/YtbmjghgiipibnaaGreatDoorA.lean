/- WALKS of small number functions: bits.Add, bits.Sub, bits.Mul, mulAddWWW_g, each with its results as variables. -/
import Derived.Test.YtbmjghgiipibnaaGreatDoorShelf
import Derived.Shelf.Spec.BitsCarry
import Derived.WalkKit
import Derived.WalkSpells
import Derived.WalkLawsBesides
import Derived.Lib.Hide
namespace Go.Proofs.YtbmjghgiipibnaaGreatDoor
open Go.RowKit

theorem run_Add64 (x y c S C : Nat) (hc : c ≤ 1) (h : x + y + c = S + C * 18446744073709551616) (hS : S < 18446744073709551616) (w : World) :
    (callFunc 115 #[.int .u64 x, .int .u64 y, .int .u64 c]).run Tryz.prog w = .ok (.value (.tuple #[.int .u64 (S : Int), .int .u64 (C : Int)])) w := by
  rw [run_callFunc_extern Tryz.func115 (by kernel_rfl) (by kernel_rfl) (by kernel_rfl) (e := add64Entry) (by kernel_rfl), run_add64 x y c (by omega) (by omega) (by omega) (by omega)]
  have e1 : ((x : Int) + (y : Int) + (c : Int)) % 18446744073709551616 = (S : Int) := by omega
  have e2 : ((x : Int) + (y : Int) + (c : Int)) / 18446744073709551616 = (C : Int) := by omega
  rw [e1, e2]
  rfl

theorem run_Sub64 (x y b D R : Nat) (hb : b ≤ 1) (hx : x < 18446744073709551616) (hy : y < 18446744073709551616) (h : x + R * 18446744073709551616 = D + y + b) (hD : D < 18446744073709551616) (w : World) :
    (callFunc 117 #[.int .u64 x, .int .u64 y, .int .u64 b]).run Tryz.prog w = .ok (.value (.tuple #[.int .u64 (D : Int), .int .u64 (R : Int)])) w := by
  rw [run_callFunc_extern Tryz.func117 (by kernel_rfl) (by kernel_rfl) (by kernel_rfl) (e := sub64Entry) (by kernel_rfl), run_sub64 x y b hb]
  have e1 : (x + 18446744073709551616 - y - b) % 18446744073709551616 = D := by omega
  have e2 : (if x < y + b then 1 else 0) = R := by split <;> omega
  rw [e1, e2]
  rfl

set_option maxHeartbeats 400000 in
theorem add_any (x y c S C : Nat) (hc : c ≤ 1) (h : x + y + c = S + C * 18446744073709551616) (hS : S < 18446744073709551616) (w : World) :
    Calls Tryz.prog 85 #[.int .u64 x, .int .u64 y, .int .u64 c] w fun e w' => e = .returned (.tuple #[.int .u64 (S : Int), .int .u64 (C : Int)]) ∧ w = w' := by
  have h := fun w => run_Add64 x y c S C hc h hS w
  go_enter Tryz.func85, Tryz.ntmps85
  go_wp2
  go_ret2
  exact ⟨rfl, rfl⟩

set_option maxHeartbeats 400000 in
theorem sub_any (x y b D R : Nat) (hb : b ≤ 1) (hx : x < 18446744073709551616) (hy : y < 18446744073709551616) (h : x + R * 18446744073709551616 = D + y + b) (hD : D < 18446744073709551616) (w : World) :
    Calls Tryz.prog 88 #[.int .u64 x, .int .u64 y, .int .u64 b] w fun e w' => e = .returned (.tuple #[.int .u64 (D : Int), .int .u64 (R : Int)]) ∧ w = w' := by
  have h := fun w => run_Sub64 x y b D R hb hx hy h hD w
  clear hx hy hD
  go_enter Tryz.func88, Tryz.ntmps88
  go_wp2
  go_ret2
  exact ⟨rfl, rfl⟩

theorem mul_any (x y H L : Nat) (hx : x < 18446744073709551616) (hy : y < 18446744073709551616) (h : x * y = L + H * 18446744073709551616) (hL : L < 18446744073709551616) (w : World) :
    Calls Tryz.prog 95 #[.int .u64 x, .int .u64 y] w fun e w' => e = .returned (.tuple #[.int .u64 (H : Int), .int .u64 (L : Int)]) ∧ w = w' := by
  have e1 : x * y / 18446744073709551616 = H := by omega
  have e2 : x * y % 18446744073709551616 = L := by omega
  have := Tryz.bits_Mul x y hx hy w
  rw [e1, e2] at this
  exact this.mono fun e w' ⟨a, b⟩ => ⟨a, b.symm⟩

set_option maxHeartbeats 400000 in
theorem mulAdd_any (x y H L : Nat) (hx : x < 18446744073709551616) (hy : y < 18446744073709551616) (h : x * y = L + H * 18446744073709551616) (hL : L < 18446744073709551616) (hH : H < 18446744073709551616) (w : World) :
    Calls Tryz.prog 97 #[.int .u64 x, .int .u64 y, .int .u64 0] w fun e w' => e = .returned (.tuple #[.int .u64 (H : Int), .int .u64 (L : Int)]) ∧ w = w' := by
  have c1 := mul_any x y H L hx hy h hL
  have C1 := Lib.hid c1
  clear c1 h
  have C2 := Lib.hid (add_any L 0 0 L 0 (by omega) (by omega) hL)
  go_enter Tryz.func97, Tryz.ntmps97
  go_wp2_with fail
  refine (C1.out _).mono ?_
  rintro e w' ⟨rfl, rfl⟩
  go_wp2_with fail
  refine (C2.out _).mono ?_
  rintro e w' ⟨rfl, rfl⟩
  go_wp2_with fail
  go_ret2
  exact ⟨rfl, rfl⟩
end Go.Proofs.YtbmjghgiipibnaaGreatDoor
