/- WALKS: bits.Div with a high word of nought; reciprocalWord at 65536. -/
import Derived.Test.YtbmjghgiipibnaaGreatDoorA
import Derived.Deep.QuietTactic
import Derived.BigQuiet
import Derived.Handy
namespace Go.Proofs.YtbmjghgiipibnaaGreatDoor
open Go.RowKit

theorem quo_of (x y Q R : Nat) (h : x = Q * y + R) (hR : R < y) : (x : Int) / (y : Int) = (Q : Int) ∧ (x : Int) % (y : Int) = (R : Int) := by
  have hy : 0 < y := by omega
  have e1 : x / y = Q := by rw [h, Nat.mul_comm, Nat.mul_add_div hy, Nat.div_eq_of_lt hR, Nat.add_zero]
  have e2 : x % y = R := by rw [h, Nat.mul_comm, Nat.mul_add_mod, Nat.mod_eq_of_lt hR]
  exact ⟨by rw [← e1]; exact (Int.natCast_ediv x y).symm, by rw [← e2]; exact (Int.natCast_emod x y).symm⟩

set_option maxHeartbeats 400000 in
theorem div64_any (x y Q R : Nat) (hx : x < 18446744073709551616) (hy : y < 18446744073709551616) (h : x = Q * y + R) (hR : R < y) (w : World) :
    Calls Tryz.prog 160 #[.int .u64 0, .int .u64 x, .int .u64 y] w fun e w' => e = .returned (.tuple #[.int .u64 (Q : Int), .int .u64 (R : Int)]) ∧ ∃ n, w' = w.drewN n := by
  obtain ⟨e1, e2⟩ := quo_of x y Q R h hR
  have hQ : Q ≤ x := by
    rw [h]; have := Nat.mul_le_mul_left Q (show 1 ≤ y by omega); omega
  clear h
  have h1 : ((y : Int) == 0) = false := by rw [beq_eq_false_iff_ne]; omega
  have h2 : (0 : Int) < (y : Int) := by omega
  go_enter Tryz.func160, Tryz.ntmps160
  go_wp2
  go_quiet (fail)
  go_wp2
  go_ret2
  refine ⟨?_, _, rfl⟩
  show Ending.returned (.tuple #[.int .u64 (Q : Int), .int .u64 ((x : Int) % (y : Int))]) = _
  rw [e2]

set_option maxHeartbeats 400000 in
theorem div_any (x y Q R : Nat) (hx : x < 18446744073709551616) (hy : y < 18446744073709551616) (h : x = Q * y + R) (hR : R < y) (w : World) :
    Calls Tryz.prog 140 #[.int .u64 0, .int .u64 x, .int .u64 y] w fun e w' => e = .returned (.tuple #[.int .u64 (Q : Int), .int .u64 (R : Int)]) ∧ ∃ n, w' = w.drewN n := by
  have C := Lib.hid (div64_any x y Q R hx hy h hR)
  clear h
  go_enter Tryz.func140, Tryz.ntmps140
  go_wp2_with fail
  refine (C.out _).mono ?_
  rintro e w' ⟨rfl, n, rfl⟩
  go_wp2_with fail
  go_ret2
  exact ⟨rfl, _, rfl⟩

set_option maxHeartbeats 400000 in
theorem nlz_any (x : Int) (w : World) (h0 : 0 ≤ x) (h1 : x ≤ 18446744073709551615) (s : Nat) (hs : s + Lib.bitLen x.toNat = 64) :
    Calls Tryz.prog 110 #[.int .u64 x] w fun e w' => e = .returned (.int .u64 (s : Int)) ∧ w = w' := by
  have c := Tryz.bits_LeadingZeros x w h0 h1
  have e : (64 - (Lib.bitLen x.toNat : Int)) = (s : Int) := by omega
  rw [e] at c
  have hs' : s ≤ 64 := by omega
  have C := Lib.hid c
  clear c e hs h1
  go_enter Tryz.func110, Tryz.ntmps110
  go_wp2_with fail
  refine C.out.mono ?_
  rintro e w' ⟨rfl, rfl⟩
  go_wp2_with fail
  go_ret
  exact ⟨rfl, rfl⟩

theorem bl : Lib.bitLen 65536 = 17 := by decide +kernel
theorem bl2 : Lib.bitLen 9223372036854775808 = 64 := by decide +kernel

set_option maxRecDepth 100000 in
set_option maxHeartbeats 1000000 in
theorem div64_big (w : World) :
    Calls Tryz.prog 160 #[.int .u64 9223372036854775807, .int .u64 18446744073709551615, .int .u64 9223372036854775808] w fun e w' => (∃ r, e = .returned (.tuple #[.int .u64 18446744073709551615, .int .u64 r])) ∧ w = w' := by
  have C1 := fun w => Lib.hid (Tryz.bits_LeadingZeros64 9223372036854775808 w (by omega) (by omega))
  rw [show (9223372036854775808 : Int).toNat = 9223372036854775808 from rfl, bl2] at C1
  have b1 : bits .and .u64 9223372036854775808 4294967295 = 0 := by kernel_rfl
  have b2 : bits .or .u64 9223372036854775807 0 = 9223372036854775807 := by kernel_rfl
  have b3 : bits .and .u64 18446744073709551615 4294967295 = 4294967295 := by kernel_rfl
  have w1 : IntKind.u64.wrap 39614081257132168792477007872 = 18446744069414584320 := by kernel_rfl
  have w2 : IntKind.u64.wrap 39614081247908796759917199360 = 9223372036854775808 := by kernel_rfl
  have w3 : IntKind.u64.wrap 18446744073709551615 = 18446744073709551615 := by kernel_rfl
  have w4 : IntKind.u64.wrap 9223372036854775807 = 9223372036854775807 := by kernel_rfl
  have w5 : IntKind.u64.wrap 4294967295 = 4294967295 := by kernel_rfl
  have b4 : (9223372036854775807 : Int).tdiv 2147483648 = 4294967295 := by kernel_rfl
  go_enter Tryz.func160, Tryz.ntmps160
  go_wp2_with fail
  refine (C1 _).out.mono ?_
  rintro e w' ⟨rfl, rfl⟩
  go_wp2_with fail
  go_rounds 1
  go_rounds 1
  go_ret2
  exact ⟨⟨_, rfl⟩, rfl⟩

set_option maxRecDepth 100000 in
set_option maxHeartbeats 400000 in
theorem div_big (w : World) :
    Calls Tryz.prog 140 #[.int .u64 9223372036854775807, .int .u64 18446744073709551615, .int .u64 9223372036854775808] w fun e w' => (∃ r, e = .returned (.tuple #[.int .u64 18446744073709551615, .int .u64 r])) ∧ w = w' := by
  go_enter Tryz.func140, Tryz.ntmps140
  go_wp2_with fail
  refine (div64_big _).mono ?_
  rintro e w' ⟨⟨r, rfl⟩, rfl⟩
  go_wp2_with fail
  go_ret2
  exact ⟨⟨_, rfl⟩, rfl⟩

set_option maxRecDepth 100000 in
set_option maxHeartbeats 1000000 in
theorem recip_65536 (w : World) :
    Calls Tryz.prog 141 #[.int .u64 65536] w fun e w' => e = .returned (.int .u64 18446744073709551615) ∧ w = w' := by
  have C1 := fun w => Lib.hid (nlz_any 65536 w (by omega) (by omega) 47 (by rw [show (65536 : Int).toNat = 65536 from rfl, bl]))
  go_enter Tryz.func141, Tryz.ntmps141
  go_wp2_with fail
  refine (C1 _).out.mono ?_
  rintro e w' ⟨rfl, rfl⟩
  go_wp2_with fail
  refine (div_big _).mono ?_
  rintro e w' ⟨⟨r, rfl⟩, rfl⟩
  go_wp2_with fail
  go_ret
  exact ⟨rfl, rfl⟩
end Go.Proofs.YtbmjghgiipibnaaGreatDoor
