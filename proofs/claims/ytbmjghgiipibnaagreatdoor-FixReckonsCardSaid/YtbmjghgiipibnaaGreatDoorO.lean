/- WALK of fix.down: a quotient, rounded down. -/
import Derived.Test.YtbmjghgiipibnaaGreatDoorM
import Derived.Test.YtbmjghgiipibnaaGreatDoorN
namespace Go.Proofs.YtbmjghgiipibnaaGreatDoor
open Go.RowKit
set_option linter.unusedVariables false

/-- one is taken away from a number that is not above nought -/
theorem sub_one (pz py gz gy n : Nat) (v : Value) (w : World) (hz : St w pz (decide (0 < n)) v) (nq : NatQ w gz v n) (hn : n + 1 < 18446744073709551616) (hy : St w py false (.slice (some ⟨gy, 0, none⟩) 1 1)) (ny : w.heap[gy]? = some (.cells #[.int .u64 1] 50 (0, 0)))
    (h1 : pz ≠ py) (h2 : pz ≠ gz) (h3 : py ≠ gz) (h4 : gz ≠ gy) : Calls Tryz.prog 32 #[.pointer (some ⟨pz, 0, none⟩), .pointer (some ⟨pz, 0, none⟩), .pointer (some ⟨py, 0, none⟩)] w (SubPost w pz gz n) := by
  have cy : ∀ W : World, W.heap = w.heap → W.cell? ⟨gy, 0, none⟩ = some (.int .u64 1) := fun W h => cell_row (by rw [h]; exact ny) 0
  rcases nq with ⟨rfl, rfl⟩ | ⟨rfl, rfl, d⟩ | ⟨a, b, rfl, d⟩ | ⟨a, b, rfl, d⟩ | ⟨lo, hi, rfl, a, b, c, rfl, d⟩
  · exact int_sub_nought pz py gz gy _ 0 0 none rfl w hz hy (fun W h => cmp_nil _ _ W)
      (fun W h => (sub_nil gy 1 1 (by omega) (by omega) W (cy W h)).mono fun e w' ⟨he, hw⟩ => ⟨W.heap.size, he, by subst hw; exact ⟨by omega, by omega, rfl, new_heap _ _⟩, .inr (Nat.le_refl _), by subst hw; exact Upd.of_below (bl_one _ _)⟩) h1 h2 h3
  · refine int_sub_nought pz py gz gy _ 0 1 (some ⟨gz, 0, none⟩) rfl w hz hy (fun W h => cmp_zero _ _ _ _ W)
      (fun W h => (sub_zero gz gy 1 1 (by omega) (by omega) _ W (cy W h) (by rw [h]; exact d)).mono fun e w' ⟨he, hw⟩ => ⟨gz, he, ?_, .inl rfl, ?_⟩) h1 h2 h3
    · subst hw
      exact ⟨by omega, by omega, rfl, setRow_heap W gz _ _ _ _ (by rw [h]; exact d)⟩
    · subst hw
      exact ⟨rfl, rfl, rfl, by simp [World.setRow], fun k hk hz => by
        show (W.heap.modify gz _)[k]? = _
        rw [Array.getElem?_modify, if_neg (Ne.symm hz)]⟩
  · rw [show decide (0 < n) = true by simpa using a] at hz
    exact int_sub_neg pz py gz gy 1 n (.inl rfl) hn w hz hy (fun W h => addQ1 gz gy n hn W ⟨a, b, rfl, by rw [h]; exact d⟩ (cy W h)) h1 h2 h3
  · rw [show decide (0 < n) = true by simpa using a] at hz
    exact int_sub_neg pz py gz gy 6 n (.inr rfl) hn w hz hy (fun W h => addQ6 gz gy n hn W h4 ⟨a, b, rfl, by rw [h]; exact d⟩ (cy W h)) h1 h2 h3
  · omega

def Fits (z : Int) : Prop := -1099511627776 ≤ z ∧ z ≤ 1099511627776
instance (z : Int) : Decidable (Fits z) := by unfold Fits; infer_instance
/-- what down gives, of a whole quotient -/
def downV (z : Int) : Ending := if Fits z then .returned (.tuple #[.int .i64 z, .nilIface]) else .returned (.tuple #[.int .i64 0, .iface 33 (.int .i64 4)])

theorem fits_no (x : Int) (h : ¬ Fits x) (w : World) : Calls Tryz.prog 13 #[.int .i64 x] w fun e w' => e = .returned (.bool false) ∧ w = w' := by
  unfold Fits at h
  by_cases h1 : x < -1099511627776
  · exact fits_low x h1 w
  · exact fits_high x (by omega) w
theorem fits_is (x : Int) (h : Fits x) (w : World) : Calls Tryz.prog 13 #[.int .i64 x] w fun e w' => e = .returned (.bool true) ∧ w = w' := fits_yes x h.1 h.2 w

/-- the end of down, in three ways -/
theorem down_tail (q g n : Nat) (neg : Bool) (v : Value) (w : World) (hq : St w q neg v) (nq : NatQ w g v n) (z : Int) (hz : z = if neg then -(n : Int) else n) :
    (¬ Fits z ∧ Calls Tryz.prog 33 #[.pointer (some ⟨q, 0, none⟩)] w fun e w' => e = .returned (.bool false) ∧ w = w') ∨
    (¬ Fits z ∧ (Calls Tryz.prog 33 #[.pointer (some ⟨q, 0, none⟩)] w fun e w' => e = .returned (.bool true) ∧ w = w') ∧ ∃ x, (Calls Tryz.prog 34 #[.pointer (some ⟨q, 0, none⟩)] w fun e w' => e = .returned (.int .i64 x) ∧ w = w') ∧
      Calls Tryz.prog 13 #[.int .i64 x] w fun e w' => e = .returned (.bool false) ∧ w = w') ∨
    (Fits z ∧ (Calls Tryz.prog 33 #[.pointer (some ⟨q, 0, none⟩)] w fun e w' => e = .returned (.bool true) ∧ w = w') ∧ (Calls Tryz.prog 34 #[.pointer (some ⟨q, 0, none⟩)] w fun e w' => e = .returned (.int .i64 z) ∧ w = w') ∧
      Calls Tryz.prog 13 #[.int .i64 z] w fun e w' => e = .returned (.bool true) ∧ w = w') := by
  by_cases h1 : n < 9223372036854775808
  · have hi := isInt64_small q g n neg v w hq nq h1
    have h6 := int64_small q g n neg v w hq nq h1 z hz
    by_cases hf : Fits z
    · exact .inr (.inr ⟨hf, hi, h6, fits_is z hf w⟩)
    · exact .inr (.inl ⟨hf, hi, z, h6, fits_no z hf w⟩)
  · have hf : ¬ Fits z := by unfold Fits; cases neg <;> simp at hz <;> omega
    by_cases h2 : n < 18446744073709551616
    · by_cases h3 : 9223372036854775808 < n ∨ neg = false
      · exact .inl ⟨hf, isInt64_big q g n neg v w hq nq h3 (by omega) h2⟩
      · have e1 : n = 9223372036854775808 := by omega
        obtain rfl : neg = true := by cases neg; simp at h3; rfl
        exact .inr (.inl ⟨hf, isInt64_min q g n v w hq nq e1, _, int64_min q g n v w hq nq e1, fits_no _ (by unfold Fits; omega) w⟩)
    · exact .inl ⟨hf, isInt64_two q g n neg v w hq nq (by omega)⟩
end Go.Proofs.YtbmjghgiipibnaaGreatDoor
