/- WALK of marchlaw1.FixBack. -/
import Derived.Test.YtbmjghgiipibnaaGreatDoorS
namespace Go.Proofs.YtbmjghgiipibnaaGreatDoor
open Go.RowKit
set_option linter.unusedVariables false

/-- the law's middle: the rounding of a number to a whole one, as the text asks it -/
theorem mid_facts (y : Int) (h0 : -1000000000 ≤ y) (h1 : y ≤ 1000000000) :
    IntKind.i64.wrap (y / 65536 * 65536) = y / 65536 * 65536 ∧ ¬ (y < y / 65536 * 65536) ∧ IntKind.i64.wrap (y - y / 65536 * 65536) = y - y / 65536 * 65536 ∧ ¬ (65535 < y - y / 65536 * 65536) := by
  refine ⟨?_, by omega, ?_, by omega⟩ <;> rw [IntKind.wrap_i64] <;> omega

theorem of_any (x : Int) (w : World) : ∃ V, Calls Tryz.prog 6 #[.int .i64 x] w (fun e w' => e = V ∧ w = w') ∧ (V = rangeV ∨ (V = .returned (.tuple #[.int .i64 (x * 65536), .nilIface]) ∧ x * 65536 / 65536 = x)) := by
  by_cases h : Num x
  · exact ⟨_, of_is x h w, .inr ⟨rfl, by omega⟩⟩
  · exact ⟨_, of_no x h w, .inl rfl⟩

def MidOk (y : Int) : Prop := y < -1000000000 ∨ 1000000000 < y ∨ ((-1000000000 ≤ y ∧ y ≤ 1000000000) ∧ IntKind.i64.wrap (y / 65536 * 65536) = y / 65536 * 65536 ∧ ¬ (y < y / 65536 * 65536) ∧ IntKind.i64.wrap (y - y / 65536 * 65536) = y - y / 65536 * 65536 ∧ ¬ (65535 < y - y / 65536 * 65536))
theorem midOk (y : Int) : MidOk y := by
  unfold MidOk
  by_cases h0 : y < -1000000000
  · exact .inl h0
  · by_cases h1 : 1000000000 < y
    · exact .inr (.inl h1)
    · exact .inr (.inr ⟨⟨by omega, by omega⟩, mid_facts y (by omega) (by omega)⟩)

/-- the product and the quotient by one, in two ways -/
theorem one_two (y : Int) : ∃ V, (V = rangeV ∨ V = .returned (.tuple #[.int .i64 y, .nilIface])) ∧ (∀ w, Calls Tryz.prog 5 #[.int .i64 y, .int .i64 65536] w fun e w' => e = V ∧ Below w.heap.size w w') ∧
    (∀ w, Calls Tryz.prog 8 #[.int .i64 y, .int .i64 65536] w fun e w' => e = V ∧ Below w.heap.size w w') := by
  by_cases h : Fits y
  · refine ⟨_, .inr rfl, fun w => ?_, fun w => ?_⟩
    · have := fixMul y 65536 w; rw [mulV_one, if_pos h] at this; exact this
    · have := fixDiv y 65536 w; rw [divV_one, if_pos h] at this; exact this
  · refine ⟨_, .inl rfl, fun w => ?_, fun w => ?_⟩
    · have := fixMul y 65536 w; rw [mulV_one, if_neg h] at this; exact this
    · have := fixDiv y 65536 w; rw [divV_one, if_neg h] at this; exact this

theorem fixBack_any (x y : Int) (w : World) : Calls Tryz.prog 3 #[.int .i64 x, .int .i64 y] w fun e w' => e = .returned (.bool true) ∧ Below w.heap.size w w' := by
  have F : Hid (∀ w, Calls Tryz.prog 5 #[.int .i64 98304, .int .i64 131072] w fun e w' => e = .returned (.tuple #[.int .i64 196608, .nilIface]) ∧ Below w.heap.size w w') := Lib.hid fun w => by
    have := fixMul 98304 131072 w; rw [mulV_first] at this; exact this
  have O := Lib.hid (of_any x)
  have W1 := Lib.hid (fun x w => whole_any x w)
  obtain ⟨V, hV, M, D⟩ := one_two y
  replace M := Lib.hid M
  replace D := Lib.hid D
  go_enter Tryz.func3, Tryz.ntmps3
  go_wp2_with fail
  refine (F.out _).mono ?_
  rintro e w1 ⟨rfl, hB1⟩
  replace hB1 := Lib.hid hB1
  go_wp2_with fail
  obtain ⟨V6, h6, hV6⟩ := O.out w1
  refine h6.mono ?_
  clear h6
  rintro e w2 ⟨rfl, rfl⟩
  rcases hV6 with rfl | ⟨rfl, hx⟩
  all_goals
    try rw [rangeV]
    go_wp2_with fail
    try (refine (W1.out _ _).mono ?_; rintro e w2 ⟨rfl, rfl⟩; try rw [hx]; go_wp2_with fail)
    try (refine (W1.out _ _).mono ?_; rintro e w2 ⟨rfl, rfl⟩; go_wp2_with fail)
    rcases midOk y with hm | hm | ⟨⟨hm1, hm2⟩, hm3, hm4, hm5, hm6⟩
    all_goals
      go_wp2_with fail
      refine (M.out _).mono ?_
      rintro e w3 ⟨he, hB3⟩
      replace hB3 := Lib.hid hB3
      rcases hV with rfl | rfl
    all_goals
      try rw [rangeV] at he
      subst he
      go_wp2_with fail
      refine (D.out _).mono ?_
      rintro e w4 ⟨he, hB4⟩
      replace hB4 := Lib.hid hB4
      try rw [rangeV] at he
      subst he
      go_wp2_with fail
      first | go_ret | (go_quiet (fail); go_wp2_with fail; go_ret)
      refine ⟨rfl, ?_⟩
      have z1 := hB1.out.size
      have z3 := hB3.out.size
      have hh : Below w.heap.size w w4 := (hB1.out.trans (hB3.out.mono (by omega))).trans (hB4.out.mono (by omega))
      first | exact hh | exact ⟨hh.os, hh.tape, hh.output, hh.size, hh.block⟩
end Go.Proofs.YtbmjghgiipibnaaGreatDoor
