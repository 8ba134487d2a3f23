/- WALK of marchlandbig.div. -/
import Derived.Test.YtbmjghgiipibnaaGreatDoorXJ
namespace Go.Proofs.YtbmjghgiipibnaaGreatDoor
open Go.RowKit
set_option linter.unusedVariables false

def DivB (w : World) (x y : Nat) (e : Ending) (w' : World) : Prop :=
  ∃ a l c a' l' c', e = .returned (.tuple #[.slice a l c, .slice a' l' c']) ∧ Nb w' (.slice a l c) (x / y) ∧ Nb w' (.slice a' l' c') (x % y) ∧ Below w.heap.size w w'

theorem Nb.drewN {w : World} {v : Value} {n : Nat} (h : Nb w v n) (m : Nat) : Nb (w.drewN m) v n := h.keepC fun _ _ _ h => h
theorem bl_undN {B n : Nat} {w w' : World} (h : Below B (w.drewN n) w') : Below B w w' := ⟨h.os, h.tape, h.output, h.size, h.block⟩
theorem cmpZ_lt {x y : Nat} (h : x < y) : cmpZ x y = -1 := if_pos h
theorem cmpZ_ge {x y : Nat} (h : y ≤ x) : 0 ≤ cmpZ x y := by
  unfold cmpZ; rw [if_neg (by omega)]; split <;> omega

set_option maxRecDepth 100000 in
theorem divB_less {w : World} {a b : Option Addr} {l c l' c' x y : Nat} (hx : Nb w (.slice a l c) x) (hy : Nb w (.slice b l' c') y) (hlt : x < y) (bY : y < 18446744073709551616) :
    Calls Tryz.prog 90 #[.slice a l c, .slice b l' c'] w (DivB w x y) := by
  have hl : ((l' : Int) == 0) = false := by have := hy.len; rw [beq_eq_false_iff_ne]; omega
  have C1 := cmp_any hx hy bY
  rw [show CmpPost w x y = fun e w' => e = .returned (.int .i64 (-1)) ∧ Drew w w' by unfold CmpPost; rw [cmpZ_lt hlt]] at C1
  replace C1 := Lib.hid C1
  have C2 := Lib.hid (fun m => twin_any (hx.drewN m))
  have FIN := Lib.hid (show ∀ a l c m w', Nb w' (.slice a l c) x → Below w.heap.size (w.drewN m) w' → DivB w x y (.returned (.tuple #[.slice none 0 0, .slice a l c])) w' from fun a l c m w' h hb =>
    ⟨_, _, _, _, _, _, rfl, .inl ⟨Nat.div_eq_of_lt hlt, _, _, rfl⟩, by rw [Nat.mod_eq_of_lt hlt]; exact h, ⟨hb.os, hb.tape, hb.output, hb.size, hb.block⟩⟩)
  clear hx hy hlt bY
  go_enter Tryz.func90, Tryz.ntmps90
  go_wp2_with fail
  refine C1.out.mono ?_
  rintro e w1 ⟨rfl, m, rfl⟩
  go_wp2_with fail
  refine (C2.out _).mono ?_
  rintro e w2 ⟨a, l, c, rfl, hn, hb⟩
  have fin := Lib.hid (FIN.out _ _ _ _ _ hn hb)
  clear hn hb
  go_wp2_with fail
  go_ret2
  exact fin.out

set_option maxHeartbeats 400000 in
set_option maxRecDepth 100000 in
theorem divB_plain {w : World} {a b : Option Addr} {l c l' c' x y : Nat} (hx : Nb w (.slice a l c) x) (hy : Nb w (.slice b l' c') y) (hge : y ≤ x) (y0 : 0 < y) (bx : x < 18446744073709551616) :
    Calls Tryz.prog 90 #[.slice a l c, .slice b l' c'] w (DivB w x y) := by
  have hl : ((l' : Int) == 0) = false := by have := hy.len; rw [beq_eq_false_iff_ne]; omega
  have hl2 : l ≤ 2 := by have := hx.low; omega
  obtain ⟨z, hz, C1⟩ : ∃ z : Int, 0 ≤ z ∧ Calls Tryz.prog 58 #[.slice a l c, .slice b l' c'] w fun e w' => e = .returned (.int .i64 z) ∧ Drew w w' := ⟨_, cmpZ_ge hge, cmp_any hx hy (by omega)⟩
  replace C1 := Lib.hid C1
  have C2 := Lib.hid (fun m => plain_any (hx.drewN m) bx)
  have C3 := Lib.hid (fun m => plain_any (hy.drewN m) (by omega))
  obtain ⟨q, hq⟩ : ∃ q, q = x / y := ⟨_, rfl⟩
  obtain ⟨r, hr⟩ : ∃ r, r = x % y := ⟨_, rfl⟩
  have bq : q < 18446744073709551616 := by rw [hq]; exact Nat.lt_of_le_of_lt (Nat.div_le_self _ _) bx
  have br : r < 18446744073709551616 := by rw [hr]; exact Nat.lt_of_le_of_lt (Nat.mod_le _ _) bx
  have d1 : (x : Int) / (y : Int) = (q : Int) := by rw [hq]; exact (Int.natCast_ediv _ _).symm
  have d2 : (x : Int) % (y : Int) = (r : Int) := by rw [hr]; exact (Int.natCast_emod _ _).symm
  have d3 : (x : Int).tdiv (y : Int) = (q : Int) := by rw [hq]; rfl
  have d4 : (x : Int).tmod (y : Int) = (r : Int) := by rw [hr]; rfl
  have d5 : IntKind.u64.wrap (q : Int) = (q : Int) := by rw [IntKind.wrap_u64]; omega
  have d6 : IntKind.u64.wrap (r : Int) = (r : Int) := by rw [IntKind.wrap_u64]; omega
  have d7 : ((y : Int) == 0) = false := by rw [beq_eq_false_iff_ne]; omega
  have W1 := Lib.hid (fun w => words_any q bq w)
  have W2 := Lib.hid (fun w => words_any r br w)
  have FIN := Lib.hid (show ∀ a l c a' l' c' w', Nb w' (.slice a l c) q → Nb w' (.slice a' l' c') r → Below w.heap.size w w' → DivB w x y (.returned (.tuple #[.slice a l c, .slice a' l' c'])) w' from fun a l c a' l' c' w' h h' hb =>
    ⟨_, _, _, _, _, _, rfl, hq ▸ h, hr ▸ h', hb⟩)
  clear hx hy hge bx hq hr bq br
  go_enter Tryz.func90, Tryz.ntmps90
  go_wp2_with fail
  refine C1.out.mono ?_
  rintro e w1 ⟨rfl, m, rfl⟩
  go_wp2_with fail
  refine (C2.out _).mono ?_
  rintro e w2 ⟨rfl, rfl⟩
  go_wp2_with fail
  refine (C3.out _).mono ?_
  rintro e w2 ⟨rfl, rfl⟩
  go_wp2_with fail
  go_region_with (go_at_call 89; first | ((with_reducible refine (W1.out _).mono ?_); rintro e w1 ⟨a1, l1, c1, rfl, hn1, hb1⟩; replace hn1 := Lib.hid hn1; replace hb1 := Lib.hid hb1) | ((with_reducible refine (W2.out _).mono ?_); rintro e w2 ⟨a2, l2, c2, rfl, hn2, hb2⟩; replace hn2 := Lib.hid hn2; replace hb2 := Lib.hid hb2))
  all_goals
    go_wp2_with fail
    go_ret2
    have hA : Below w.heap.size w w1 := bl_undN hb1.out
    exact FIN.out _ _ _ _ _ _ _ (hn1.out.below hb2.out) hn2.out (hA.trans (hb2.out.mono hA.size))

set_option maxHeartbeats 400000 in
set_option maxRecDepth 100000 in
theorem divB_long {w : World} {a b : Option Addr} {l c l' c' x : Nat} (hx : Nb w (.slice a l c) x) (hy : Nb w (.slice b l' c') 65536) (hge : 18446744073709551616 ≤ x) :
    Calls Tryz.prog 90 #[.slice a l c, .slice b l' c'] w (DivB w x 65536) := by
  obtain ⟨z, hz, C1⟩ : ∃ z : Int, 0 ≤ z ∧ Calls Tryz.prog 58 #[.slice a l c, .slice b l' c'] w fun e w' => e = .returned (.int .i64 z) ∧ Drew w w' := ⟨_, cmpZ_ge (by omega), cmp_any hx hy (by omega)⟩
  replace C1 := Lib.hid C1
  rcases hy with ⟨h0, _, _, hv⟩ | ⟨h, _, hv, k0, k1, k2⟩ | ⟨_, _, lo', hi', hv, k0, k1, k2, k3, k4, k5⟩ | ⟨_, _, _, _, _, hv, k0, k1, _⟩
  · omega
  · cases hv
    rcases hx with ⟨h0, _, _, hv⟩ | ⟨_, _, hv, h0, h1, h2⟩ | ⟨_, _, lo, hi, hv, h0, h1, h2, h3, h4, h5⟩ | ⟨g, _, x0, x1, x2, hv, h0, h1, h2, h3, h4, h5, h6, h7⟩
    · omega
    · omega
    · omega
    · cases hv
      rw [h0] at hge ⊢
      have S := Lib.hid (fun m => small_three g c x0 x1 x2 h4 h3 h2 (w.drewN m) h5 h6 h7)
      generalize x2 * 18446744073709551616 + x1 * 4294967296 + x0 = N at *
      have T := fun g w => Lib.hid (trim1 g 1 (N % 65536) (by omega) (by omega) (by omega) w)
      have FIN := Lib.hid (show ∀ a l c a' l' c' m w' (o : Obj), Nb w' (.slice a l c) (N / 65536) → Nb (w'.alloc o) (.slice a' l' c') (N % 65536) → Below (w.drewN m).heap.size (w.drewN m) w' → DivB w N 65536 (.returned (.tuple #[.slice a l c, .slice a' l' c'])) (w'.alloc o) from fun a l c a' l' c' m w' o h h' hb =>
        ⟨_, _, _, _, _, _, rfl, h.below (bl_one _ _), h', (bl_undN hb).alloc (bl_undN hb).size _⟩)
      clear h0 h1 h2 h3 h4 h5 h6 h7 hge
      go_enter Tryz.func90, Tryz.ntmps90
      go_wp2_with fail
      refine C1.out.mono ?_
      rintro e w1 ⟨rfl, m, rfl⟩
      go_wp2_with fail
      refine (S.out _).mono ?_
      rintro e w2 ⟨a1, l1, c1, rfl, hn, hb⟩
      replace hn := Lib.hid hn
      replace hb := Lib.hid hb
      go_wp2_with fail
      refine ((T _ _).out (by simp)).mono ?_
      rintro e w3 ⟨a3, l3, c3, rfl, hn3, rfl⟩
      replace hn3 := Lib.hid hn3
      go_wp2_with fail
      go_ret2
      exact FIN.out _ _ _ _ _ _ _ _ _ hn.out hn3.out hb.out
  · omega
  · omega

theorem divB {w : World} {a b : Option Addr} {l c l' c' x y : Nat} (hx : Nb w (.slice a l c) x) (hy : Nb w (.slice b l' c') y) (y0 : 0 < y) (bY : y < 18446744073709551616) (h : x < 18446744073709551616 ∨ y = 65536) :
    Calls Tryz.prog 90 #[.slice a l c, .slice b l' c'] w (DivB w x y) := by
  by_cases h1 : x < y
  · exact divB_less hx hy h1 bY
  · by_cases h2 : x < 18446744073709551616
    · exact divB_plain hx hy (by omega) y0 h2
    · obtain rfl : y = 65536 := by omega
      exact divB_long hx hy (by omega)
end Go.Proofs.YtbmjghgiipibnaaGreatDoor
