/- WALKS of math/big's nat: divWVW over two words by 65536; divW, div. -/
import Derived.Test.YtbmjghgiipibnaaGreatDoorE
namespace Go.Proofs.YtbmjghgiipibnaaGreatDoor
open Go.RowKit
set_option linter.unusedVariables false

theorem two_words (x0 x1 q0 q1 r0 r1 : Nat) (h1 : 0 * 18446744073709551616 + x1 = q1 * 65536 + r1) (h0 : r1 * 18446744073709551616 + x0 = q0 * 65536 + r0) (hr : r0 < 65536) (hr1 : r1 < 65536) (hx : x0 < 18446744073709551616) :
    x1 * 18446744073709551616 + x0 = (q1 * 18446744073709551616 + q0) * 65536 + r0 ∧ q0 < 18446744073709551616 := by omega

set_option maxRecDepth 100000 in
set_option maxHeartbeats 400000 in
theorem divWVW_two (g h c k x0 x1 : Nat) (hc1 : 2 ≤ c) (hc2 : c ≤ 100) (hk1 : 2 ≤ k) (hk2 : k ≤ 100) (hx0 : x0 < 18446744073709551616) (hx1 : x1 < 18446744073709551616) (v0 v1 : Value) (w : World) (hgh : g ≠ h)
    (h0 : w.cell? ⟨h, 0, none⟩ = some (.int .u64 x0)) (h1 : w.cell? ⟨h, 1, none⟩ = some (.int .u64 x1)) (k0 : w.cell? ⟨g, 0, none⟩ = some v0) (k1 : w.cell? ⟨g, 1, none⟩ = some v1) (f0 : w.frozen? ⟨g, 0, none⟩ = false) (f1 : w.frozen? ⟨g, 1, none⟩ = false) :
    Calls Tryz.prog 109 #[.slice (some ⟨g, 0, none⟩) 2 c, .int .u64 0, .slice (some ⟨h, 0, none⟩) 2 k, .int .u64 65536] w fun e w' =>
      ∃ Q0 Q1 R : Nat, e = .returned (.int .u64 (R : Int)) ∧ (x1 * 18446744073709551616 + x0 = (Q1 * 18446744073709551616 + Q0) * 65536 + R ∧ Q0 < 18446744073709551616 ∧ R < 65536) ∧
        (w.setCell ⟨g, 1, none⟩ (.int .u64 (Q1 : Int))).setCell ⟨g, 0, none⟩ (.int .u64 (Q0 : Int)) = w' := by
  have C1 := Lib.hid (divWW_any 0 x1 (by omega) hx1)
  have C0 := Lib.hid (fun r => divWW_any r x0 (h0 := hx0))
  have T := Lib.hid (two_words x0 x1)
  have HX := Lib.hid hx0
  clear hx0 hx1
  go_enter Tryz.func109, Tryz.ntmps109
  go_wp2_with fail
  refine (recip_65536 _).mono ?_
  rintro e w' ⟨rfl, rfl⟩
  go_wp2_with fail
  refine wp_loop_rounds 3 ?_
  rw [rounds_succ]
  go_wp2_with fail
  refine (C1.out _).mono ?_
  rintro e w' ⟨⟨Q1, R1, rfl, hq1, hR1⟩, rfl⟩
  have HQ1 := Lib.hid hq1
  clear hq1
  go_wp2_with fail
  rw [rounds_succ]
  go_wp2_with fail
  refine (C0.out R1 hR1 _).mono ?_
  rintro e w' ⟨⟨Q0, R0, rfl, hq0, hR0⟩, rfl⟩
  have HQ0 := Lib.hid hq0
  clear hq0
  go_wp2_with fail
  rw [rounds_succ]
  go_wp2_with fail
  go_ret
  have t := T.out Q0 Q1 R0 R1 HQ1.out HQ0.out hR0 hR1 HX.out
  exact ⟨Q0, Q1, R0, rfl, ⟨t.1, t.2, hR0⟩, rfl⟩
end Go.Proofs.YtbmjghgiipibnaaGreatDoor
