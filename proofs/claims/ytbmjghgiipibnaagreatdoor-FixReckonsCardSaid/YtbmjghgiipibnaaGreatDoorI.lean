/- WALKS of math/big's Int: NewInt, mul, Mul. -/
import Derived.Test.YtbmjghgiipibnaaGreatDoorH
namespace Go.Proofs.YtbmjghgiipibnaaGreatDoor
open Go.RowKit
set_option linter.unusedVariables false

/-- an Int's struct -/
def St (w : World) (p : Nat) (neg : Bool) (v : Value) : Prop := w.heap[p]? = some (.cells #[.bool neg, v] 38 (0, 0))

def NewPost (w : World) (x : Int) (e : Ending) (w' : World) : Prop :=
  ∃ p g v, e = .returned (.pointer (some ⟨p, 0, none⟩)) ∧ St w' p (decide (x < 0)) v ∧ NatN w' g v x.natAbs ∧ w.heap.size ≤ p ∧ w.heap.size ≤ g ∧ p < w'.heap.size ∧ g < w'.heap.size ∧ Below w.heap.size w w'

theorem newInt_zero (w : World) : Calls Tryz.prog 15 #[.int .i64 0] w (NewPost w 0) := by
  go_enter Tryz.func15, Tryz.ntmps15
  go_wp2_with fail
  go_ret
  exact ⟨w.heap.size, w.heap.size, _, rfl, new_heap _ _, .inl ⟨rfl, rfl⟩, Nat.le_refl _, Nat.le_refl _, by simp, by simp, bl_one _ _⟩

theorem newInt_pos (n : Nat) (h0 : 0 < n) (h1 : n < 9223372036854775808) (w : World) : Calls Tryz.prog 15 #[.int .i64 n] w (NewPost w n) := by
  have hb : ((n : Int) == 0) = false := by rw [beq_eq_false_iff_ne]; omega
  go_enter Tryz.func15, Tryz.ntmps15
  go_wp2_with fail
  go_ret
  exact ⟨w.heap.size + 1, w.heap.size, _, rfl, new_heap2 _ _ _, .inr ⟨by simpa using h0, by simp; omega, rfl, (old_heap _ _ _ (by simp)).trans (new_heap _ _)⟩, by omega, Nat.le_refl _, by simp, by simp; omega, bl_two _ _ _⟩

theorem newInt_neg (n : Nat) (h0 : 0 < n) (h1 : n < 9223372036854775808) (w : World) : Calls Tryz.prog 15 #[.int .i64 (-(n : Int))] w (NewPost w (-(n : Int))) := by
  have hb : (-(n : Int) == 0) = false := by rw [beq_eq_false_iff_ne]; omega
  have hw : IntKind.u64.wrap (-IntKind.u64.wrap (-(n : Int))) = (n : Int) := by rw [IntKind.wrap_u64, IntKind.wrap_u64]; omega
  have hd : Hid (decide (-(n : Int) < 0) = true) := by show _ = _; rw [decide_eq_true_eq]; omega
  go_enter Tryz.func15, Tryz.ntmps15
  go_wp2_with fail
  go_ret
  refine ⟨w.heap.size + 1, w.heap.size, _, rfl, ?_, .inr ⟨by simpa using h0, by simp; omega, rfl, ?_⟩, by omega, Nat.le_refl _, by simp, by simp; omega, bl_two _ _ _⟩
  · rw [hd.out]; exact new_heap2 _ _ _
  · rw [show (-(n : Int)).natAbs = n by omega]; exact (old_heap _ _ _ (by simp)).trans (new_heap _ _)

theorem newInt (x : Int) (h0 : -9223372036854775808 < x) (h1 : x < 9223372036854775808) (w : World) : Calls Tryz.prog 15 #[.int .i64 x] w (NewPost w x) := by
  rcases Int.lt_trichotomy x 0 with h | rfl | h
  · obtain ⟨n, rfl⟩ : ∃ n : Nat, x = -(n : Int) := ⟨x.natAbs, by omega⟩
    exact newInt_neg n (by omega) (by omega) w
  · exact newInt_zero w
  · obtain ⟨n, rfl⟩ := Int.eq_ofNat_of_zero_le (Int.le_of_lt h)
    exact newInt_pos n (by omega) (by omega) w

def MulPost (w : World) (n : Nat) (e : Ending) (w' : World) : Prop :=
  ∃ v g, e = .returned v ∧ NatM w' g v n ∧ w.heap.size ≤ g ∧ Below w.heap.size w w'

theorem mulN (gx gy x y : Nat) (xv yv : Value) (w : World) (hx : NatN w gx xv x) (hy : NatN w gy yv y) :
    Calls Tryz.prog 45 #[.slice none 0 0, .pointer none, xv, yv] w (MulPost w (x * y)) := by
  rcases hx with ⟨rfl, rfl⟩ | ⟨a, b, rfl, d⟩ <;> rcases hy with ⟨rfl, rfl⟩ | ⟨a', b', rfl, d'⟩
  · exact (mul_nil_nil w).mono fun e w' ⟨he, hw⟩ => ⟨_, w.heap.size, he, .inl ⟨rfl, rfl⟩, Nat.le_refl _, hw ▸ Below.refl _ _⟩
  · exact (mul_nil_one _ _ w).mono fun e w' ⟨he, hw⟩ => ⟨_, w.heap.size, he, .inl ⟨by simp, rfl⟩, Nat.le_refl _, hw ▸ Below.refl _ _⟩
  · exact (mul_one_nil _ _ w).mono fun e w' ⟨he, hw⟩ => ⟨_, w.heap.size, he, .inl ⟨by simp, rfl⟩, Nat.le_refl _, hw ▸ Below.refl _ _⟩
  · have hm : x * y = x * y % 18446744073709551616 + x * y / 18446744073709551616 * 18446744073709551616 := by omega
    have hH : x * y / 18446744073709551616 < 18446744073709551616 := Nat.div_lt_of_lt_mul (Nat.mul_lt_mul'' b b')
    have hp : 0 < x * y := Nat.mul_pos a a'
    refine (mul_one_one gy gx x y (x * y / 18446744073709551616) (x * y % 18446744073709551616) 1 1 (by omega) (by omega) (by omega) (by omega) a a' b b' hm (by omega) hH w (cell_row d 0) (cell_row d' 0) _ rfl).mono ?_
    rintro e w' ⟨rfl, rfl⟩
    refine ⟨_, w.heap.size, rfl, ?_, Nat.le_refl _, bl_one _ _⟩
    generalize x * y = P at *
    by_cases hz : P / 18446744073709551616 = 0
    · rw [if_pos hz, hz]
      refine .inr (.inl ⟨hp, by omega, rfl, ?_⟩)
      rw [show P % 18446744073709551616 = P by omega]
      exact new_heap _ _
    · rw [if_neg hz]
      exact .inr (.inr ⟨_, _, by omega, by omega, hH, by omega, rfl, new_heap _ _⟩)
end Go.Proofs.YtbmjghgiipibnaaGreatDoor
