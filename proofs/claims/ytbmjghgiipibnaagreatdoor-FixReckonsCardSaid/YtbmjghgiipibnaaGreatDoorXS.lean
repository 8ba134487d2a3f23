/- WALK of marchlaw1.FixReckons. -/
import Derived.Test.YtbmjghgiipibnaaGreatDoorXR
import Derived.Test.YtbmjghgiipibnaaGreatDoorS
import Derived.Test.YtbmjghgiipibnaaGreatDoorW
namespace Go.Proofs.YtbmjghgiipibnaaGreatDoor
open Go.RowKit
set_option linter.unusedVariables false

theorem ErrT.below {w w' : World} (h : ErrT w) (hb : Below w.heap.size w w') : ErrT w' := (hb.cell (p := ⟨0, 0, none⟩) (lt_of_cell h)).trans h

/-- an error's value and its number go together -/
def Pair (ev : Value) (c : Int) : Prop := (ev = .nilIface ∧ c = 0) ∨ ev = .iface 33 (.int .i64 c)
theorem same_any (ev : Value) (c : Int) (h : Pair ev c) (w : World) (hg : ErrT w) : Calls Tryz.prog 10 #[ev, .int .i64 c] w fun e w' => e = .returned (.bool true) ∧ Below w.heap.size w w' := by
  rcases h with ⟨rfl, rfl⟩ | rfl
  · have C := Lib.hid (told_nil w)
    clear hg
    go_enter Tryz.func10, Tryz.ntmps10
    go_wp2_with fail
    refine C.out.mono ?_
    rintro e w1 ⟨rfl, rfl⟩
    go_wp2_with fail
    go_ret
    exact ⟨rfl, Below.refl _ _⟩
  · have C := Lib.hid (told_some c w hg)
    clear hg
    go_enter Tryz.func10, Tryz.ntmps10
    go_wp2_with fail
    refine C.out.mono ?_
    rintro e w1 ⟨rfl, hb⟩
    replace hb := Lib.hid hb
    go_wp2_with fail
    go_ret
    exact ⟨rfl, hb.out⟩

theorem mul_pair (a b : Int) : ∃ v c ev, rmulV a b = .returned (.tuple #[.int .i64 v, .int .i64 c]) ∧ mulV a b = .returned (.tuple #[.int .i64 v, ev]) ∧ Pair ev c := by
  unfold rmulV mulV
  by_cases h : Fits a ∧ Fits b
  · rw [if_pos h, if_pos h]
    unfold floorV downV
    by_cases hz : Fits (downZ (prodNeg a b) false (a.natAbs * b.natAbs) 65536)
    · rw [if_pos hz, if_pos hz]; exact ⟨_, _, _, rfl, rfl, .inl ⟨rfl, rfl⟩⟩
    · rw [if_neg hz, if_neg hz]; exact ⟨_, _, _, rfl, rfl, .inr rfl⟩
  · rw [if_neg h, if_neg h]; exact ⟨_, _, _, rfl, rfl, .inr rfl⟩
theorem div_pair (a b : Int) : ∃ v c ev, rdivV a b = .returned (.tuple #[.int .i64 v, .int .i64 c]) ∧ divV a b = .returned (.tuple #[.int .i64 v, ev]) ∧ Pair ev c := by
  unfold rdivV divV
  by_cases h : Fits a ∧ Fits b ∧ b ≠ 0
  · rw [if_pos h, if_pos h]
    unfold floorV downV
    by_cases hz : Fits (downZ (prodNeg a 65536) (decide (b < 0)) (a.natAbs * 65536) b.natAbs)
    · rw [if_pos hz, if_pos hz]; exact ⟨_, _, _, rfl, rfl, .inl ⟨rfl, rfl⟩⟩
    · rw [if_neg hz, if_neg hz]; exact ⟨_, _, _, rfl, rfl, .inr rfl⟩
  · rw [if_neg h, if_neg h]; exact ⟨_, _, _, rfl, rfl, .inr rfl⟩

theorem reckons_all (a b : Int) (w : World) (hg : ErrT w) (n3 c3 : Int) (ev3 : Value) (h3 : Pair ev3 c3) (hn : (Num a ∧ n3 = a * 65536 ∧ c3 = 0) ∨ (¬ Num a ∧ n3 = 0 ∧ c3 = 1))
    (O : ∀ w, Calls Tryz.prog 6 #[.int .i64 a] w fun e w' => e = .returned (.tuple #[.int .i64 n3, ev3]) ∧ w = w') :
    Calls Tryz.prog 4 #[.int .i64 a, .int .i64 b] w fun e w' => e = .returned (.bool true) ∧ Below w.heap.size w w' := by
  obtain ⟨v1, c1, ev1, hr1, hm1, p1⟩ := mul_pair a b
  obtain ⟨v2, c2, ev2, hr2, hm2, p2⟩ := div_pair a b
  have R1 := Lib.hid (fun w => rMul a b w)
  have M1 := Lib.hid (fun w => fixMul a b w)
  have R2 := Lib.hid (fun w => rDiv a b w)
  have M2 := Lib.hid (fun w => fixDiv a b w)
  rw [hr1] at R1
  rw [hm1] at M1
  rw [hr2] at R2
  rw [hm2] at M2
  have P1 := Lib.hid (same_any ev1 c1 p1)
  have P2 := Lib.hid (same_any ev2 c2 p2)
  have P3 := Lib.hid (same_any ev3 c3 h3)
  have HG := Lib.hid hg
  replace O := Lib.hid O
  clear hr1 hm1 hr2 hm2 p1 p2 h3 hg
  rcases hn with ⟨hn, rfl, rfl⟩ | ⟨hn, rfl, rfl⟩
  · have S := Lib.hid (small_yes a hn.1 hn.2)
    have hw : IntKind.i64.wrap (a * 65536) = a * 65536 := by unfold Num at hn; rw [IntKind.wrap_i64]; omega
    clear hn
    go_enter Tryz.func4, Tryz.ntmps4
    go_wp2_with fail
    refine (R1.out _).mono ?_
    rintro e w1 ⟨rfl, b1⟩
    replace b1 := Lib.hid b1
    go_wp2_with fail
    refine (M1.out _).mono ?_
    rintro e w2 ⟨rfl, b2⟩
    replace b2 := Lib.hid (b1.out.trans (b2.mono b1.out.size))
    go_wp2_with fail
    refine (P1.out _ (HG.out.below b2.out)).mono ?_
    rintro e w3 ⟨rfl, b3⟩
    replace b3 := Lib.hid (b2.out.trans (b3.mono b2.out.size))
    go_wp2_with fail
    refine (R2.out _).mono ?_
    rintro e w4 ⟨rfl, b4⟩
    replace b4 := Lib.hid (b3.out.trans (b4.mono b3.out.size))
    go_wp2_with fail
    refine (M2.out _).mono ?_
    rintro e w5 ⟨rfl, b5⟩
    replace b5 := Lib.hid (b4.out.trans (b5.mono b4.out.size))
    go_wp2_with fail
    refine (P2.out _ (HG.out.below b5.out)).mono ?_
    rintro e w6 ⟨rfl, b6⟩
    replace b6 := Lib.hid (b5.out.trans (b6.mono b5.out.size))
    go_wp2_with fail
    refine (S.out _).mono ?_
    rintro e w7 ⟨rfl, rfl⟩
    go_wp2_with fail
    refine (O.out _).mono ?_
    rintro e w7 ⟨rfl, rfl⟩
    go_wp2_with fail
    refine (P3.out _ (HG.out.below b6.out)).mono ?_
    rintro e w8 ⟨rfl, b8⟩
    replace b8 := Lib.hid (b6.out.trans (b8.mono b6.out.size))
    go_wp2_with fail
    go_ret
    exact ⟨rfl, b8.out⟩
  · have S : Hid (∀ w, Calls Tryz.prog 12 #[.int .i64 a] w fun e w' => e = .returned (.bool false) ∧ w = w') := Lib.hid fun w => by
      unfold Num at hn
      by_cases h1 : a < -1000000
      · exact small_low a h1 w
      · exact small_high a (by omega) w
    clear hn
    go_enter Tryz.func4, Tryz.ntmps4
    go_wp2_with fail
    refine (R1.out _).mono ?_
    rintro e w1 ⟨rfl, b1⟩
    replace b1 := Lib.hid b1
    go_wp2_with fail
    refine (M1.out _).mono ?_
    rintro e w2 ⟨rfl, b2⟩
    replace b2 := Lib.hid (b1.out.trans (b2.mono b1.out.size))
    go_wp2_with fail
    refine (P1.out _ (HG.out.below b2.out)).mono ?_
    rintro e w3 ⟨rfl, b3⟩
    replace b3 := Lib.hid (b2.out.trans (b3.mono b2.out.size))
    go_wp2_with fail
    refine (R2.out _).mono ?_
    rintro e w4 ⟨rfl, b4⟩
    replace b4 := Lib.hid (b3.out.trans (b4.mono b3.out.size))
    go_wp2_with fail
    refine (M2.out _).mono ?_
    rintro e w5 ⟨rfl, b5⟩
    replace b5 := Lib.hid (b4.out.trans (b5.mono b4.out.size))
    go_wp2_with fail
    refine (P2.out _ (HG.out.below b5.out)).mono ?_
    rintro e w6 ⟨rfl, b6⟩
    replace b6 := Lib.hid (b5.out.trans (b6.mono b5.out.size))
    go_wp2_with fail
    refine (S.out _).mono ?_
    rintro e w7 ⟨rfl, rfl⟩
    go_wp2_with fail
    refine (O.out _).mono ?_
    rintro e w7 ⟨rfl, rfl⟩
    go_wp2_with fail
    refine (P3.out _ (HG.out.below b6.out)).mono ?_
    rintro e w8 ⟨rfl, b8⟩
    replace b8 := Lib.hid (b6.out.trans (b8.mono b6.out.size))
    go_wp2_with fail
    go_ret
    exact ⟨rfl, b8.out⟩

theorem fixReckons_any (a b : Int) (w : World) (hg : ErrT w) : Calls Tryz.prog 4 #[.int .i64 a, .int .i64 b] w fun e w' => e = .returned (.bool true) ∧ Below w.heap.size w w' := by
  by_cases h : Num a
  · exact reckons_all a b w hg _ _ _ (.inl ⟨rfl, rfl⟩) (.inl ⟨h, rfl, rfl⟩) (of_is a h)
  · exact reckons_all a b w hg _ _ _ (.inr rfl) (.inr ⟨h, rfl, rfl⟩) (of_no a h)
end Go.Proofs.YtbmjghgiipibnaaGreatDoor
