/- WALKS of fix.Of, fix.Whole; what a product and a quotient by one are. -/
import Derived.Test.YtbmjghgiipibnaaGreatDoorR
namespace Go.Proofs.YtbmjghgiipibnaaGreatDoor
open Go.RowKit
set_option linter.unusedVariables false

def Num (x : Int) : Prop := -1000000 ≤ x ∧ x ≤ 1000000
theorem number_yes (x : Int) (h1 : -1000000 ≤ x) (h2 : x ≤ 1000000) (w : World) : Calls Tryz.prog 17 #[.int .i64 x] w fun e w' => e = .returned (.bool true) ∧ w = w' := by
  go_enter Tryz.func17, Tryz.ntmps17
  go_wp2_with fail
  go_ret
  exact ⟨rfl, rfl⟩
theorem number_low (x : Int) (h1 : x < -1000000) (w : World) : Calls Tryz.prog 17 #[.int .i64 x] w fun e w' => e = .returned (.bool false) ∧ w = w' := by
  go_enter Tryz.func17, Tryz.ntmps17
  go_wp2_with fail
  go_ret
  exact ⟨rfl, rfl⟩
theorem number_high (x : Int) (h2 : 1000000 < x) (w : World) : Calls Tryz.prog 17 #[.int .i64 x] w fun e w' => e = .returned (.bool false) ∧ w = w' := by
  have hb : decide (x ≤ 1000000) = false := by rw [decide_eq_false_iff_not]; omega
  go_enter Tryz.func17, Tryz.ntmps17
  go_wp2_with fail
  go_ret
  exact ⟨rfl, rfl⟩

theorem of_no (x : Int) (h : ¬ Num x) (w : World) : Calls Tryz.prog 6 #[.int .i64 x] w fun e w' => e = rangeV ∧ w = w' := by
  have C := Lib.hid (show ∀ w, Calls Tryz.prog 17 #[.int .i64 x] w fun e w' => e = .returned (.bool false) ∧ w = w' from fun w => by
    unfold Num at h
    by_cases h1 : x < -1000000
    · exact number_low x h1 w
    · exact number_high x (by omega) w)
  clear h
  go_enter Tryz.func6, Tryz.ntmps6
  go_wp2_with fail
  refine (C.out _).mono ?_
  rintro e w1 ⟨rfl, rfl⟩
  go_wp2_with fail
  go_ret2
  exact ⟨rfl, rfl⟩
theorem of_is (x : Int) (h : Num x) (w : World) : Calls Tryz.prog 6 #[.int .i64 x] w fun e w' => e = .returned (.tuple #[.int .i64 (x * 65536), .nilIface]) ∧ w = w' := by
  have C := Lib.hid (number_yes x h.1 h.2)
  have hw : IntKind.i64.wrap (x * 65536) = x * 65536 := by unfold Num at h; rw [IntKind.wrap_i64]; omega
  clear h
  go_enter Tryz.func6, Tryz.ntmps6
  go_wp2_with fail
  refine (C.out _).mono ?_
  rintro e w1 ⟨rfl, rfl⟩
  go_wp2_with fail
  go_ret2
  exact ⟨rfl, rfl⟩

theorem whole_any (x : Int) (w : World) : Calls Tryz.prog 7 #[.int .i64 x] w fun e w' => e = .returned (.int .i64 (x / 65536)) ∧ w = w' := by
  go_enter Tryz.func7, Tryz.ntmps7
  go_wp2_with fail
  go_ret
  exact ⟨rfl, rfl⟩

/-- a product with one -/
theorem mulV_one (x : Int) : mulV x 65536 = if Fits x then .returned (.tuple #[.int .i64 x, .nilIface]) else rangeV := by
  unfold mulV
  by_cases h : Fits x
  · rw [if_pos ⟨h, by unfold Fits; omega⟩, if_pos h]
    have : downZ (prodNeg x 65536) false (x.natAbs * (65536 : Int).natAbs) 65536 = x := by
      unfold downZ prodNeg
      by_cases hx : x < 0
      · have h1 : 0 < x.natAbs * 65536 := by omega
        simp [hx, h1]; omega
      · simp [hx]; omega
    rw [this]; exact if_pos h
  · rw [if_neg (fun k => h k.1), if_neg h]
theorem divV_one (x : Int) : divV x 65536 = if Fits x then .returned (.tuple #[.int .i64 x, .nilIface]) else rangeV := by
  unfold divV
  by_cases h : Fits x
  · rw [if_pos ⟨h, by unfold Fits; omega, by omega⟩, if_pos h]
    have : downZ (prodNeg x 65536) (decide ((65536 : Int) < 0)) (x.natAbs * 65536) (65536 : Int).natAbs = x := by
      unfold downZ prodNeg
      by_cases hx : x < 0
      · have h1 : 0 < x.natAbs * 65536 := by omega
        simp [hx, h1]; omega
      · simp [hx]; omega
    rw [this]; exact if_pos h
  · rw [if_neg (fun k => h k.1), if_neg h]
theorem mulV_first : mulV 98304 131072 = .returned (.tuple #[.int .i64 196608, .nilIface]) := by kernel_rfl
end Go.Proofs.YtbmjghgiipibnaaGreatDoor
