/- WALK: divWW (two words by one) at the divisor 65536. -/
import Derived.Test.YtbmjghgiipibnaaGreatDoorB
import Derived.Laws.BitsAllLaws
namespace Go.Proofs.YtbmjghgiipibnaaGreatDoor
open Go.RowKit

/-- What the steps of divWW come to, at 2^63. -/
structure Plan (X1 X0 H L S0 C0 S1 H2 L2 D0 R0 : Nat) : Prop where
  mul1 : 18446744073709551615 * X1 = L + H * 18446744073709551616
  hL : L < 18446744073709551616
  hH : H < 18446744073709551616
  add1 : L + X0 + 0 = S0 + C0 * 18446744073709551616
  hS0 : S0 < 18446744073709551616
  hC0 : C0 ≤ 1
  add2 : H + X1 + C0 = S1 + 0 * 18446744073709551616
  hS1 : S1 + 1 < 18446744073709551616
  mul2 : 9223372036854775808 * S1 = L2 + H2 * 18446744073709551616
  hL2 : L2 < 18446744073709551616
  hH2 : H2 < 18446744073709551616
  sub1 : X0 + R0 * 18446744073709551616 = D0 + L2 + 0
  hD0 : D0 < 18446744073709551616
  hR0 : R0 ≤ 1
  sub2 : X1 + 0 * 18446744073709551616 = 0 + H2 + R0
  fin : (D0 < 9223372036854775808 ∧ X1 * 18446744073709551616 + X0 = S1 * 9223372036854775808 + D0) ∨
    (9223372036854775808 ≤ D0 ∧ X1 * 18446744073709551616 + X0 = (S1 + 1) * 9223372036854775808 + (D0 - 9223372036854775808))

theorem plan_of (X1 X0 : Nat) (h1 : X1 < 9223372036854775808) (h0 : X0 < 18446744073709551616) : ∃ H L S0 C0 S1 H2 L2 D0 R0, Plan X1 X0 H L S0 C0 S1 H2 L2 D0 R0 := by
  by_cases hz : X1 = 0
  · subst hz
    refine ⟨0, 0, X0, 0, 0, 0, 0, X0, 0, ⟨by omega, by omega, by omega, by omega, by omega, by omega, by omega, by omega, by omega, by omega, by omega, by omega, by omega, by omega, by omega, ?_⟩⟩
    by_cases hd : X0 < 9223372036854775808
    · left; exact ⟨hd, by omega⟩
    · right; exact ⟨by omega, by omega⟩
  · by_cases hc : X1 ≤ X0
    · refine ⟨X1 - 1, 18446744073709551616 - X1, X0 - X1, 1, 2 * X1, X1, 0, X0, 0, ⟨by omega, by omega, by omega, by omega, by omega, by omega, by omega, by omega, by omega, by omega, by omega, by omega, by omega, by omega, by omega, ?_⟩⟩
      by_cases hd : X0 < 9223372036854775808
      · left; exact ⟨hd, by omega⟩
      · right; exact ⟨by omega, by omega⟩
    · refine ⟨X1 - 1, 18446744073709551616 - X1, 18446744073709551616 - X1 + X0, 0, 2 * X1 - 1, X1 - 1, 9223372036854775808, X0 + 9223372036854775808, 1, ⟨by omega, by omega, by omega, by omega, by omega, by omega, by omega, by omega, by omega, by omega, by omega, by omega, by omega, by omega, by omega, ?_⟩⟩
      right; exact ⟨by omega, by omega⟩

/-- The words of x1, x0 moved up by 47 bits. -/
theorem moved (x1 x0 Q D : Nat)
    (h : (x1 * 140737488355328 + x0 / 131072) * 18446744073709551616 + x0 % 131072 * 140737488355328 = Q * 9223372036854775808 + D) (hD : D < 9223372036854775808) :
    x1 * 18446744073709551616 + x0 = Q * 65536 + D / 140737488355328 ∧ D / 140737488355328 < 65536 := by
  omega

theorem or_moved (x1 x0 : Nat) (h1 : x1 < 65536) (h0 : x0 < 18446744073709551616) :
    bits .or .u64 ((x1 : Int) * 140737488355328) ((x0 : Int) / 131072) = ((x1 * 140737488355328 + x0 / 131072 : Nat) : Int) := by
  have e1 : ((x1 : Int) * 140737488355328) = ((x1 * 140737488355328 : Nat) : Int) := by omega
  have e2 : ((x0 : Int) / 131072) = ((x0 / 131072 : Nat) : Int) := by omega
  rw [e1, e2, u64_or_nat _ _ (by omega) (by omega), nat_join 47 _ _ (by omega) (by omega)]

theorem wrap_moved (x0 : Nat) : IntKind.u64.wrap ((x0 : Int) * 140737488355328) = ((x0 % 131072 * 140737488355328 : Nat) : Int) := by
  rw [IntKind.wrap_u64]; omega

set_option maxRecDepth 100000 in
set_option maxHeartbeats 1000000 in
theorem divWW_any (x1 x0 : Nat) (h1 : x1 < 65536) (h0 : x0 < 18446744073709551616) (w : World) :
    Calls Tryz.prog 142 #[.int .u64 x1, .int .u64 x0, .int .u64 65536, .int .u64 18446744073709551615] w fun e w' =>
      (∃ Q R : Nat, e = .returned (.tuple #[.int .u64 (Q : Int), .int .u64 (R : Int)]) ∧ x1 * 18446744073709551616 + x0 = Q * 65536 + R ∧ R < 65536) ∧ w = w' := by
  have C1 := fun w => Lib.hid (nlz_any 65536 w (by omega) (by omega) 47 (by rw [show (65536 : Int).toNat = 65536 from rfl, bl]))
  have ho := or_moved x1 x0 h1 h0
  have hw := wrap_moved x0
  have hm := moved x1 x0
  obtain ⟨X1, e1⟩ : ∃ X1, X1 = x1 * 140737488355328 + x0 / 131072 := ⟨_, rfl⟩
  obtain ⟨X0, e0⟩ : ∃ X0, X0 = x0 % 131072 * 140737488355328 := ⟨_, rfl⟩
  rw [← e1] at ho hm
  rw [← e0] at hw hm
  have b1 : X1 < 9223372036854775808 := by omega
  have b0 : X0 < 18446744073709551616 := by omega
  have HM := Lib.hid hm
  clear e1 e0 hm
  obtain ⟨H, L, S0, C0, S1, H2, L2, D0, R0, p⟩ := plan_of X1 X0 b1 b0
  have M1 := Lib.hid (mul_any 18446744073709551615 X1 H L (by omega) (by omega) p.mul1 p.hL)
  have A1 := Lib.hid (add_any L X0 0 S0 C0 (by omega) p.add1 p.hS0)
  have A2 := Lib.hid (add_any H X1 C0 S1 0 p.hC0 p.add2 (by have := p.hS1; omega))
  have M2 := Lib.hid (mul_any 9223372036854775808 S1 H2 L2 (by omega) (by have := p.hS1; omega) p.mul2 p.hL2)
  have B1 := Lib.hid (sub_any X0 L2 0 D0 R0 (by omega) b0 p.hL2 p.sub1 p.hD0)
  have B2 := Lib.hid (sub_any X1 H2 R0 0 0 p.hR0 (by omega) p.hH2 p.sub2 (by omega))
  have F := Lib.hid p.fin
  have hS1 := p.hS1
  have hD0 := p.hD0
  clear p
  have hD : D0 < 9223372036854775808 ∨ 9223372036854775808 ≤ D0 := by omega
  rcases hD with hD | hD
  all_goals
    go_enter Tryz.func142, Tryz.ntmps142
    go_wp2_with fail
    refine (C1 _).out.mono ?_
    rintro e w' ⟨rfl, rfl⟩
    go_wp2_with fail
    refine (M1.out _).mono ?_
    rintro e w' ⟨rfl, rfl⟩
    go_wp2_with fail
    refine (A1.out _).mono ?_
    rintro e w' ⟨rfl, rfl⟩
    go_wp2_with fail
    refine (A2.out _).mono ?_
    rintro e w' ⟨rfl, rfl⟩
    go_wp2_with fail
    refine (M2.out _).mono ?_
    rintro e w' ⟨rfl, rfl⟩
    go_wp2_with fail
    refine (B1.out _).mono ?_
    rintro e w' ⟨rfl, rfl⟩
    go_wp2_with fail
    refine (B2.out _).mono ?_
    rintro e w' ⟨rfl, rfl⟩
  · have hb : decide ((9223372036854775808 : Int) ≤ (D0 : Int)) = false := by rw [decide_eq_false_iff_not]; omega
    have HD := Lib.hid hD
    clear hD hD0 b1 b0 h0 h1
    go_wp2_with fail
    go_ret2
    rcases F.out with ⟨_, f⟩ | ⟨f, _⟩
    · have := HM.out S1 D0 f HD.out
      exact ⟨⟨S1, D0 / 140737488355328, rfl, this.1, this.2⟩, rfl⟩
    · have := HD.out; omega
  · have hb : decide ((9223372036854775808 : Int) ≤ (D0 : Int)) = true := by rw [decide_eq_true_eq]; omega
    have hE : IntKind.u64.wrap ((D0 : Int) - 9223372036854775808) = ((D0 - 9223372036854775808 : Nat) : Int) := by rw [IntKind.wrap_u64]; omega
    obtain ⟨E, eE⟩ : ∃ E, E = D0 - 9223372036854775808 := ⟨_, rfl⟩
    rw [← eE] at hE
    have HE := Lib.hid eE
    have HD := Lib.hid hD
    have HD0 := Lib.hid hD0
    clear eE hD hD0 b1 b0 h0 h1
    go_wp2_with fail
    go_ret2
    rcases F.out with ⟨f, _⟩ | ⟨_, f⟩
    · have := HD.out; omega
    · rw [← HE.out] at f
      have := HM.out (S1 + 1) E f (by have := HE.out; have := HD0.out; omega)
      exact ⟨⟨S1 + 1, E / 140737488355328, rfl, this.1, this.2⟩, rfl⟩
end Go.Proofs.YtbmjghgiipibnaaGreatDoor
