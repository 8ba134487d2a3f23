/- WALKS of fix.Mul, fix.Div, fix.Of, fix.Whole. -/
import Derived.Test.YtbmjghgiipibnaaGreatDoorP
namespace Go.Proofs.YtbmjghgiipibnaaGreatDoor
open Go.RowKit
set_option linter.unusedVariables false

theorem fits_any (x : Int) (w : World) : Calls Tryz.prog 13 #[.int .i64 x] w fun e w' => e = .returned (.bool (decide (Fits x))) ∧ w = w' := by
  by_cases h : Fits x
  · rw [decide_eq_true h]; exact fits_is x h w
  · rw [decide_eq_false h]; exact fits_no x h w

def rangeV : Ending := .returned (.tuple #[.int .i64 0, .iface 33 (.int .i64 1)])

theorem new65536 (w : World) : Calls Tryz.prog 15 #[.int .i64 65536] w fun e w' => ∃ p g, e = .returned (.pointer (some ⟨p, 0, none⟩)) ∧ St w' p false (.slice (some ⟨g, 0, none⟩) 1 1) ∧ w'.heap[g]? = some (.cells #[.int .u64 65536] 50 (0, 0)) ∧ w.heap.size ≤ p ∧ w.heap.size ≤ g ∧ Below w.heap.size w w' := by
  refine (newInt 65536 (by omega) (by omega) w).mono ?_
  rintro e w' ⟨p, g, v, rfl, s, n, hp, hg, _, _, hB⟩
  rcases n with ⟨h, _⟩ | ⟨_, _, rfl, n⟩
  · simp at h
  · exact ⟨p, g, rfl, s, n, hp, hg, hB⟩

theorem newSome (x : Int) (h : x ≠ 0) (h0 : -9223372036854775808 < x) (h1 : x < 9223372036854775808) (w : World) : Calls Tryz.prog 15 #[.int .i64 x] w fun e w' => ∃ p g, e = .returned (.pointer (some ⟨p, 0, none⟩)) ∧ St w' p (decide (x < 0)) (.slice (some ⟨g, 0, none⟩) 1 1) ∧ w'.heap[g]? = some (.cells #[.int .u64 x.natAbs] 50 (0, 0)) ∧ w.heap.size ≤ p ∧ w.heap.size ≤ g ∧ Below w.heap.size w w' := by
  refine (newInt x h0 h1 w).mono ?_
  rintro e w' ⟨p, g, v, rfl, s, n, hp, hg, _, _, hB⟩
  rcases n with ⟨h', _⟩ | ⟨_, _, rfl, n⟩
  · omega
  · exact ⟨p, g, rfl, s, n, hp, hg, hB⟩

/-- a new Int beside two numbers, and their product in it -/
theorem prod_new (a b : Int) (w : World) (ha : Fits a) (hb : Fits b) (Q : Ending → World → Prop)
    (hQ : ∀ w' v g, St w' w.heap.size (decide (0 < a.natAbs * b.natAbs) && (decide (a < 0) != decide (b < 0))) v → NatM w' g v (a.natAbs * b.natAbs) → Below w.heap.size w w' → w.heap.size < w'.heap.size → Q (.returned (.pointer (some ⟨w.heap.size, 0, none⟩))) w') :
    Calls Tryz.prog 15 #[.int .i64 a] (w.alloc (.cells #[.bool false, .slice none 0 0] 38)) fun e w1 => ∃ p, e = .returned (.pointer (some ⟨p, 0, none⟩)) ∧
      Calls Tryz.prog 15 #[.int .i64 b] w1 fun e w2 => ∃ q, e = .returned (.pointer (some ⟨q, 0, none⟩)) ∧
        Calls Tryz.prog 14 #[.pointer (some ⟨w.heap.size, 0, none⟩), .pointer (some ⟨p, 0, none⟩), .pointer (some ⟨q, 0, none⟩)] w2 Q := by
  unfold Fits at ha hb
  refine (newInt a (by omega) (by omega) _).mono ?_
  rintro e w1 ⟨p, g, v, rfl, s1, n1, hp, hg, hp', hg', hB1⟩
  refine ⟨p, rfl, (newInt b (by omega) (by omega) _).mono ?_⟩
  rintro e w2 ⟨q, g2, v2, rfl, s2, n2, hq, hg2, hq', hg2', hB2⟩
  have z1 := hB1.size
  have z2 := hB2.size
  simp at hp hg z1
  have s0 : St w2 w.heap.size false (.slice none 0 0) := (hB2.block _ (by omega)).trans ((hB1.block _ (by simp)).trans (new_heap _ _))
  refine ⟨q, rfl, (int_Mul w.heap.size p q g g2 (decide (a < 0)) (decide (b < 0)) v v2 a.natAbs b.natAbs w2 s0 ((hB2.block _ hp').trans s1) s2 (n1.keep (hB2.block _ hg')) n2 (by omega) (by omega) (by omega)).mono ?_⟩
  rintro e w3 ⟨v3, g3, rfl, s3, n3, hg3, hu⟩
  have hBB : Below w.heap.size w w2 := (bl_one w _).trans ((hB1.mono (by simp)).trans (hB2.mono (by omega)))
  have hB3 : Below w.heap.size w w3 := hBB.trans ⟨hu.os, hu.tape, hu.output, hu.size, fun k hk => hu.block k (by omega) (by omega)⟩
  exact hQ w3 v3 g3 s3 n3 hB3 (by have := hu.size; omega)
end Go.Proofs.YtbmjghgiipibnaaGreatDoor
