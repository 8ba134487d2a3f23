/- WALKS of fix.Mul, fix.Div, fix.Of, fix.Whole. -/
import Derived.Test.YtbmjghgiipibnaaGreatDoorQ
namespace Go.Proofs.YtbmjghgiipibnaaGreatDoor
open Go.RowKit
set_option linter.unusedVariables false

def prodNeg (a b : Int) : Bool := decide (0 < a.natAbs * b.natAbs) && (decide (a < 0) != decide (b < 0))
def mulV (a b : Int) : Ending := if Fits a ∧ Fits b then downV (downZ (prodNeg a b) false (a.natAbs * b.natAbs) 65536) else rangeV
def divV (a b : Int) : Ending := if Fits a ∧ Fits b ∧ b ≠ 0 then downV (downZ (prodNeg a 65536) (decide (b < 0)) (a.natAbs * 65536) b.natAbs) else rangeV

theorem fits_prod {a b : Int} (ha : Fits a) (hb : Fits b) (h : 0 < (a.natAbs * b.natAbs) % 65536) : a.natAbs * b.natAbs / 65536 + 1 < 18446744073709551616 := by
  have h1 : a.natAbs ≤ 1099511627776 := by unfold Fits at ha; omega
  have h2 : b.natAbs ≤ 1099511627776 := by unfold Fits at hb; omega
  generalize a.natAbs = x at *
  generalize b.natAbs = y at *
  by_cases hx : x = 1099511627776
  · subst hx; omega
  · have : x * y ≤ 1099511627775 * 1099511627776 := Nat.mul_le_mul (by omega) h2
    omega

theorem fixMul_no1 (a b : Int) (ha : ¬ Fits a) (w : World) : Calls Tryz.prog 5 #[.int .i64 a, .int .i64 b] w fun e w' => e = rangeV ∧ w = w' := by
  have A := Lib.hid (fits_no a ha)
  clear ha
  go_enter Tryz.func5, Tryz.ntmps5
  go_wp2_with fail
  refine (A.out _).mono ?_
  rintro e w1 ⟨rfl, rfl⟩
  go_wp2_with fail
  go_ret2
  exact ⟨rfl, rfl⟩

theorem fixMul_no2 (a b : Int) (ha : Fits a) (hb : ¬ Fits b) (w : World) : Calls Tryz.prog 5 #[.int .i64 a, .int .i64 b] w fun e w' => e = rangeV ∧ w = w' := by
  have A := Lib.hid (fits_is a ha)
  have B := Lib.hid (fits_no b hb)
  clear ha hb
  go_enter Tryz.func5, Tryz.ntmps5
  go_wp2_with fail
  refine (A.out _).mono ?_
  rintro e w1 ⟨rfl, rfl⟩
  go_wp2_with fail
  refine (B.out _).mono ?_
  rintro e w1 ⟨rfl, rfl⟩
  go_wp2_with fail
  go_ret2
  exact ⟨rfl, rfl⟩

set_option maxHeartbeats 1000000 in
theorem fixMul_is (a b : Int) (ha : Fits a) (hb : Fits b) (z : Int) (hz : z = downZ (prodNeg a b) false (a.natAbs * b.natAbs) 65536) (w : World) : Calls Tryz.prog 5 #[.int .i64 a, .int .i64 b] w fun e w' => e = downV z ∧ Below w.heap.size w w' := by
  have HZ := Lib.hid hz
  have A := Lib.hid (fits_is a ha)
  have B := Lib.hid (fits_is b hb)
  have P := Lib.hid (fun w Q h => prod_new a b w ha hb Q h)
  have M := Lib.hid (fits_prod ha hb)
  clear ha hb hz
  go_enter Tryz.func5, Tryz.ntmps5
  go_wp2_with fail
  refine (A.out _).mono ?_
  rintro e w1 ⟨rfl, rfl⟩
  go_wp2_with fail
  refine (B.out _).mono ?_
  rintro e w1 ⟨rfl, rfl⟩
  go_wp2_with fail
  have P1 := P.out w (fun e w' => e = .returned (.pointer (some ⟨w.heap.size, 0, none⟩)) ∧ ∃ v g, St w' w.heap.size (decide (0 < a.natAbs * b.natAbs) && (decide (a < 0) != decide (b < 0))) v ∧ NatM w' g v (a.natAbs * b.natAbs) ∧ Below w.heap.size w w' ∧ w.heap.size < w'.heap.size)
    (fun w' v g h1 h2 h3 h4 => ⟨rfl, v, g, h1, h2, h3, h4⟩)
  refine P1.mono ?_
  clear P1
  rintro e w1 ⟨p, rfl, h⟩
  replace h := Lib.hid h
  go_wp2_with fail
  refine h.out.mono ?_
  clear h
  rintro e w2 ⟨q, rfl, h⟩
  replace h := Lib.hid h
  go_wp2_with fail
  refine h.out.mono ?_
  clear h
  rintro e w3 ⟨rfl, v, g, h1, h2, h3, h4⟩
  replace h1 := Lib.hid h1
  replace h2 := Lib.hid h2
  replace h3 := Lib.hid h3
  go_wp2_with fail
  refine (new65536 w3).mono ?_
  rintro e w4 ⟨p4, g4, rfl, s4, n4, hp4, hg4, hB4⟩
  have D := Lib.hid (down_any w.heap.size p4 g g4 65536 (a.natAbs * b.natAbs) (prodNeg a b) false v w4 ((hB4.block _ h4).trans h1.out) s4 (h2.out.keep' hB4.block) n4 (by omega) (by omega) (.inr rfl) M.out (by omega))
  have hB := Lib.hid (h3.out.trans (hB4.mono (by omega)))
  have hs : w.heap.size ≤ w4.heap.size := hB.out.size
  clear s4 n4 hB4
  go_wp2_with fail
  refine D.out.mono ?_
  rintro e w5 ⟨he, hB5⟩
  have hB6 := Lib.hid (hB.out.trans (hB5.mono hs))
  rw [← HZ.out] at he
  subst he
  clear hB5
  by_cases hz : Fits z
  · rw [show downV z = .returned (.tuple #[.int .i64 z, .nilIface]) from if_pos hz]
    go_wp2_with fail
    go_ret2
    exact ⟨(if_pos hz).symm, hB6.out⟩
  · rw [show downV z = .returned (.tuple #[.int .i64 0, .iface 33 (.int .i64 4)]) from if_neg hz]
    go_wp2_with fail
    go_ret2
    exact ⟨(if_neg hz).symm, hB6.out⟩

theorem fixDiv_no1 (a b : Int) (ha : ¬ Fits a) (w : World) : Calls Tryz.prog 8 #[.int .i64 a, .int .i64 b] w fun e w' => e = rangeV ∧ w = w' := by
  have A := Lib.hid (fits_no a ha)
  clear ha
  go_enter Tryz.func8, Tryz.ntmps8
  go_wp2_with fail
  refine (A.out _).mono ?_
  rintro e w1 ⟨rfl, rfl⟩
  go_wp2_with fail
  go_ret2
  exact ⟨rfl, rfl⟩

theorem fixDiv_no2 (a b : Int) (ha : Fits a) (hb : ¬ Fits b) (w : World) : Calls Tryz.prog 8 #[.int .i64 a, .int .i64 b] w fun e w' => e = rangeV ∧ w = w' := by
  have A := Lib.hid (fits_is a ha)
  have B := Lib.hid (fits_no b hb)
  clear ha hb
  go_enter Tryz.func8, Tryz.ntmps8
  go_wp2_with fail
  refine (A.out _).mono ?_
  rintro e w1 ⟨rfl, rfl⟩
  go_wp2_with fail
  refine (B.out _).mono ?_
  rintro e w1 ⟨rfl, rfl⟩
  go_wp2_with fail
  go_ret2
  exact ⟨rfl, rfl⟩

theorem fixDiv_zero (a : Int) (ha : Fits a) (w : World) : Calls Tryz.prog 8 #[.int .i64 a, .int .i64 0] w fun e w' => e = rangeV ∧ w = w' := by
  have A := Lib.hid (fits_is a ha)
  have B := Lib.hid (fits_is 0 (by unfold Fits; omega))
  clear ha
  go_enter Tryz.func8, Tryz.ntmps8
  go_wp2_with fail
  refine (A.out _).mono ?_
  rintro e w1 ⟨rfl, rfl⟩
  go_wp2_with fail
  refine (B.out _).mono ?_
  rintro e w1 ⟨rfl, rfl⟩
  go_wp2_with fail
  go_ret2
  exact ⟨rfl, rfl⟩

set_option maxHeartbeats 1000000 in
theorem fixDiv_is (a b : Int) (ha : Fits a) (hb : Fits b) (hb0 : b ≠ 0) (z : Int) (hz : z = downZ (prodNeg a 65536) (decide (b < 0)) (a.natAbs * 65536) b.natAbs) (w : World) : Calls Tryz.prog 8 #[.int .i64 a, .int .i64 b] w fun e w' => e = downV z ∧ Below w.heap.size w w' := by
  have HZ := Lib.hid hz
  have A := Lib.hid (fits_is a ha)
  have B := Lib.hid (fits_is b hb)
  have P := Lib.hid (fun w Q h => prod_new a 65536 w ha (by unfold Fits; omega) Q h)
  have N := Lib.hid (newSome b hb0 (by unfold Fits at hb; omega) (by unfold Fits at hb; omega))
  have M := Lib.hid (show a.natAbs * 65536 < 18446744073709551616 ∧ 0 < b.natAbs ∧ b.natAbs < 18446744073709551616 by unfold Fits at ha hb; omega)
  have hbq : (b == 0) = false := by rw [beq_eq_false_iff_ne]; exact hb0
  have hT : 0 < (a.natAbs * 65536) % b.natAbs → (a.natAbs * 65536) / b.natAbs + 1 < 18446744073709551616 := fun _ => by
    have := Nat.div_le_self (a.natAbs * 65536) b.natAbs
    unfold Fits at ha; omega
  replace hT := Lib.hid hT
  clear ha hb hb0 hz
  go_enter Tryz.func8, Tryz.ntmps8
  go_wp2_with fail
  refine (A.out _).mono ?_
  rintro e w1 ⟨rfl, rfl⟩
  go_wp2_with fail
  refine (B.out _).mono ?_
  rintro e w1 ⟨rfl, rfl⟩
  go_wp2_with fail
  have P1 := P.out w (fun e w' => e = .returned (.pointer (some ⟨w.heap.size, 0, none⟩)) ∧ ∃ v g, St w' w.heap.size (prodNeg a 65536) v ∧ NatM w' g v (a.natAbs * 65536) ∧ Below w.heap.size w w' ∧ w.heap.size < w'.heap.size)
    (fun w' v g h1 h2 h3 h4 => ⟨rfl, v, g, h1, h2, h3, h4⟩)
  refine P1.mono ?_
  clear P1
  rintro e w1 ⟨p, rfl, h⟩
  replace h := Lib.hid h
  go_wp2_with fail
  refine h.out.mono ?_
  clear h
  rintro e w2 ⟨q, rfl, h⟩
  replace h := Lib.hid h
  go_wp2_with fail
  refine h.out.mono ?_
  clear h
  rintro e w3 ⟨rfl, v, g, h1, h2, h3, h4⟩
  replace h1 := Lib.hid h1
  replace h2 := Lib.hid h2
  replace h3 := Lib.hid h3
  go_wp2_with fail
  refine (N.out w3).mono ?_
  rintro e w4 ⟨p4, g4, rfl, s4, n4, hp4, hg4, hB4⟩
  have D := Lib.hid (down_any w.heap.size p4 g g4 b.natAbs (a.natAbs * 65536) (prodNeg a 65536) (decide (b < 0)) v w4 ((hB4.block _ h4).trans h1.out) s4 (h2.out.keep' hB4.block) n4 M.out.2.1 M.out.2.2 (.inl M.out.1) hT.out (by omega))
  have hB := Lib.hid (h3.out.trans (hB4.mono (by omega)))
  have hs : w.heap.size ≤ w4.heap.size := hB.out.size
  clear s4 n4 hB4
  go_wp2_with fail
  refine D.out.mono ?_
  rintro e w5 ⟨he, hB5⟩
  have hB6 := Lib.hid (hB.out.trans (hB5.mono hs))
  rw [← HZ.out] at he
  subst he
  clear hB5
  by_cases hz : Fits z
  · rw [show downV z = .returned (.tuple #[.int .i64 z, .nilIface]) from if_pos hz]
    go_wp2_with fail
    go_ret2
    exact ⟨(if_pos hz).symm, hB6.out⟩
  · rw [show downV z = .returned (.tuple #[.int .i64 0, .iface 33 (.int .i64 4)]) from if_neg hz]
    go_wp2_with fail
    go_ret2
    exact ⟨(if_neg hz).symm, hB6.out⟩

theorem fixMul (a b : Int) (w : World) : Calls Tryz.prog 5 #[.int .i64 a, .int .i64 b] w fun e w' => e = mulV a b ∧ Below w.heap.size w w' := by
  unfold mulV
  by_cases ha : Fits a
  · by_cases hb : Fits b
    · rw [if_pos ⟨ha, hb⟩]; exact fixMul_is a b ha hb _ rfl w
    · rw [if_neg (fun h => hb h.2)]; exact (fixMul_no2 a b ha hb w).mono fun e w' h => ⟨h.1, h.2 ▸ Below.refl _ _⟩
  · rw [if_neg (fun h => ha h.1)]; exact (fixMul_no1 a b ha w).mono fun e w' h => ⟨h.1, h.2 ▸ Below.refl _ _⟩

theorem fixDiv (a b : Int) (w : World) : Calls Tryz.prog 8 #[.int .i64 a, .int .i64 b] w fun e w' => e = divV a b ∧ Below w.heap.size w w' := by
  unfold divV
  by_cases ha : Fits a
  · by_cases hb : Fits b
    · by_cases h0 : b = 0
      · rw [if_neg (fun h => h.2.2 h0)]; subst h0; exact (fixDiv_zero a ha w).mono fun e w' h => ⟨h.1, h.2 ▸ Below.refl _ _⟩
      · rw [if_pos ⟨ha, hb, h0⟩]; exact fixDiv_is a b ha hb h0 _ rfl w
    · rw [if_neg (fun h => hb h.2.1)]; exact (fixDiv_no2 a b ha hb w).mono fun e w' h => ⟨h.1, h.2 ▸ Below.refl _ _⟩
  · rw [if_neg (fun h => ha h.1)]; exact (fixDiv_no1 a b ha w).mono fun e w' h => ⟨h.1, h.2 ▸ Below.refl _ _⟩
end Go.Proofs.YtbmjghgiipibnaaGreatDoor
