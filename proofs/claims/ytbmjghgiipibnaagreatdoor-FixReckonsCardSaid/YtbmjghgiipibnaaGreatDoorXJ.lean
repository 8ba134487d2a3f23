/- WALKS of marchlandbig: small by 65536, div. -/
import Derived.Test.YtbmjghgiipibnaaGreatDoorXI
import Derived.Test.YtbmjghgiipibnaaGreatDoorXF
import Derived.Deep.RegionWith
namespace Go.Proofs.YtbmjghgiipibnaaGreatDoor
open Go.RowKit
set_option linter.unusedVariables false

theorem or_words' (hi lo : Nat) (h0 : lo < 4294967296) (h1 : hi < 4294967296) : bits .or .u64 ((hi : Int) * 4294967296) (lo : Int) = ((hi * 4294967296 + lo : Nat) : Int) := by
  have e1 : ((hi : Int) * 4294967296) = ((hi * 4294967296 : Nat) : Int) := by omega
  rw [e1, u64_or_nat _ _ (by omega) (by omega), nat_join 32 _ _ (by omega) (by omega)]
theorem or_zero (lo : Nat) (h0 : lo < 4294967296) : bits .or .u64 0 (lo : Int) = (lo : Int) := by
  have := or_words' 0 lo h0 (by omega)
  simpa using this

def SmallPost (w : World) (n : Nat) (e : Ending) (w' : World) : Prop := ∃ a l c, e = .returned (.tuple #[.slice a l c, .int .u32 (n % 65536 : Nat)]) ∧ Nb w' (.slice a l c) (n / 65536) ∧ Below w.heap.size w w'

set_option maxRecDepth 100000 in
set_option maxHeartbeats 1000000 in
theorem small_three (g c x0 x1 x2 : Nat) (h0 : x0 < 4294967296) (h1 : x1 < 4294967296) (h2 : x2 < 4294967296) (w : World) (c0 : w.cell? ⟨g, 0, none⟩ = some (.int .u32 x0)) (c1 : w.cell? ⟨g, 1, none⟩ = some (.int .u32 x1)) (c2 : w.cell? ⟨g, 2, none⟩ = some (.int .u32 x2)) :
    Calls Tryz.prog 119 #[.slice (some ⟨g, 0, none⟩) 3 c, .int .u32 65536] w (SmallPost w (x2 * 18446744073709551616 + x1 * 4294967296 + x0)) := by
  obtain ⟨q2, eq2⟩ : ∃ q, q = x2 / 65536 := ⟨_, rfl⟩
  obtain ⟨r2, er2⟩ : ∃ q, q = x2 % 65536 := ⟨_, rfl⟩
  obtain ⟨v1, ev1⟩ : ∃ q, q = r2 * 4294967296 + x1 := ⟨_, rfl⟩
  obtain ⟨q1, eq1⟩ : ∃ q, q = v1 / 65536 := ⟨_, rfl⟩
  obtain ⟨r1, er1⟩ : ∃ q, q = v1 % 65536 := ⟨_, rfl⟩
  obtain ⟨v0, ev0⟩ : ∃ q, q = r1 * 4294967296 + x0 := ⟨_, rfl⟩
  obtain ⟨q0, eq0⟩ : ∃ q, q = v0 / 65536 := ⟨_, rfl⟩
  obtain ⟨r0, er0⟩ : ∃ q, q = v0 % 65536 := ⟨_, rfl⟩
  have br2 : r2 < 65536 := by omega
  have br1 : r1 < 65536 := by omega
  have br0 : r0 < 65536 := by omega
  have bv1 : v1 < 281474976710656 := by omega
  have bv0 : v0 < 281474976710656 := by omega
  have o2 := or_zero x2 h2
  have o1 := or_words' r2 x1 h1 (by omega)
  rw [← ev1] at o1
  have o0 := or_words' r1 x0 h0 (by omega)
  rw [← ev0] at o0
  have a2 : IntKind.u32.wrap ((x2 : Int) / 65536) = (q2 : Int) := by rw [IntKind.wrap_u32]; omega
  have a1 : IntKind.u32.wrap ((v1 : Int) / 65536) = (q1 : Int) := by rw [IntKind.wrap_u32]; omega
  have a0 : IntKind.u32.wrap ((v0 : Int) / 65536) = (q0 : Int) := by rw [IntKind.wrap_u32]; omega
  have m2 : (x2 : Int) % 65536 = (r2 : Int) := by omega
  have m1 : (v1 : Int) % 65536 = (r1 : Int) := by omega
  have m0 : (v0 : Int) % 65536 = (r0 : Int) := by omega
  have e1 : (x2 * 18446744073709551616 + x1 * 4294967296 + x0) / 65536 = q2 * 18446744073709551616 + q1 * 4294967296 + q0 := by omega
  have e2 : (x2 * 18446744073709551616 + x1 * 4294967296 + x0) % 65536 = r0 := by omega
  unfold SmallPost
  rw [e1, e2]
  have T := fun g w => Lib.hid (trim3 g 3 q0 q1 q2 (q2 * 18446744073709551616 + q1 * 4294967296 + q0) (by omega) (by omega) (by omega) (by omega) (by omega) rfl w)
  have m := mkw3
  have s0 := lt_of_cell c0
  clear eq2 er2 ev1 eq1 er1 ev0 eq0 er0 e1 e2
  go_enter Tryz.func119, Tryz.ntmps119
  go_wp2_with fail
  refine wp_loop_rounds 4 ?_
  rw [rounds_succ]
  go_wp2_with fail
  rw [rounds_succ]
  go_wp2_with fail
  rw [rounds_succ]
  go_wp2_with fail
  rw [rounds_succ]
  go_wp2_with fail
  refine ((T _ _).out ?c0 ?c1 ?c2).mono ?_
  case c0 =>
    apply row_cell (t := 76)
    · repeat (with_reducible first | exact rowN _ _ | apply rowS | apply rowD)
    · rfl
  case c1 =>
    apply row_cell (t := 76)
    · repeat (with_reducible first | exact rowN _ _ | apply rowS | apply rowD)
    · rfl
  case c2 =>
    apply row_cell (t := 76)
    · repeat (with_reducible first | exact rowN _ _ | apply rowS | apply rowD)
    · rfl
  rintro e w' ⟨a, l, c, rfl, hn, rfl⟩
  replace hn := Lib.hid hn
  go_wp2_with fail
  go_ret2
  refine ⟨a, l, c, rfl, hn.out, ?_⟩
  repeat (with_reducible first | exact bl_one _ _ | refine belS ?_ _ _ _ (Nat.le_refl _) | refine bl_drewN ?_ _)
end Go.Proofs.YtbmjghgiipibnaaGreatDoor
