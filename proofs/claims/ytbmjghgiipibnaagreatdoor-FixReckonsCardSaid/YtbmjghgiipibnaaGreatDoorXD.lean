/- WALKS of marchlandbig: NewInt, Sign, Uint64, Int64, twin. -/
import Derived.Test.YtbmjghgiipibnaaGreatDoorXC
namespace Go.Proofs.YtbmjghgiipibnaaGreatDoor
open Go.RowKit
set_option linter.unusedVariables false

def SetPost (w : World) (z : Nat) (x : Int) (e : Ending) (w' : World) : Prop := e = .returned (.pointer (some ⟨z, 0, none⟩)) ∧ Ib w' z (decide (x < 0)) x.natAbs ∧ Upd z w w'

theorem setInt_any (z : Nat) (b : Bool) (a' : Option Addr) (l' c' : Nat) (x : Int) (h0 : -9223372036854775808 < x) (h1 : x < 9223372036854775808) (w : World) (hz : MSt w z b (.slice a' l' c')) :
    Calls Tryz.prog 51 #[.pointer (some ⟨z, 0, none⟩), .int .i64 x] w (SetPost w z x) := by
  have C1 := Lib.hid (words_any x.natAbs (by omega) w)
  have C2 := Lib.hid (fun a l c w1 (hb : Below w.heap.size w w1) (hn : Nb w1 (.slice a l c) x.natAbs) => give_any z (decide (x < 0)) b a l c x.natAbs a' l' c' w1 ((hb.block z hz.lt).trans hz) hn)
  have FIN : Hid (∀ w1 e w2, Below w.heap.size w w1 → GivePost w1 z (decide (x < 0)) x.natAbs e w2 → SetPost w z x e w2) := Lib.hid fun w1 e w2 hb hg => by
    obtain ⟨he, hi, hu⟩ := hg
    refine ⟨he, ?_, (Upd.of_below hb).trans hu⟩
    rw [show (decide (x < 0) && decide (0 < x.natAbs)) = decide (x < 0) by by_cases h : x < 0 <;> simp [h]; omega] at hi
    exact hi
  by_cases hx : x < 0
  · obtain ⟨n, rfl⟩ : ∃ n : Nat, x = -(n : Int) := ⟨x.natAbs, by omega⟩
    have hw : IntKind.u64.wrap (-IntKind.u64.wrap (-(n : Int))) = ((-(n : Int)).natAbs : Int) := by rw [IntKind.wrap_u64, IntKind.wrap_u64]; omega
    have hd : decide (-(n : Int) < 0) = true := by rw [decide_eq_true_eq]; exact hx
    generalize (-(n : Int)).natAbs = m at *
    rw [hd] at C2 FIN
    have HD := Lib.hid hd
    clear hz hd h0 h1
    go_enter Tryz.func51, Tryz.ntmps51
    go_wp2_with fail
    refine C1.out.mono ?_
    rintro e w1 ⟨a, l, c, rfl, hn, hb⟩
    replace hn := Lib.hid hn
    replace hb := Lib.hid hb
    go_wp2_with fail
    refine (C2.out _ _ _ _ hb.out hn.out).mono ?_
    rintro e w2 hg
    have fin := Lib.hid (FIN.out _ _ _ hb.out hg)
    obtain ⟨rfl, hg⟩ := hg
    clear hg
    go_wp2_with fail
    go_ret
    exact fin.out
  · obtain ⟨n, rfl⟩ := Int.eq_ofNat_of_zero_le (Int.not_lt.1 hx)
    have hw : IntKind.u64.wrap (n : Int) = (n : Int) := by rw [IntKind.wrap_u64]; omega
    have hd : decide ((n : Int) < 0) = false := by rw [decide_eq_false_iff_not]; exact hx
    rw [show (n : Int).natAbs = n from rfl] at C1 C2 FIN
    rw [hd] at C2 FIN
    clear hz hd
    go_enter Tryz.func51, Tryz.ntmps51
    go_wp2_with fail
    refine C1.out.mono ?_
    rintro e w1 ⟨a, l, c, rfl, hn, hb⟩
    replace hn := Lib.hid hn
    replace hb := Lib.hid hb
    go_wp2_with fail
    refine (C2.out _ _ _ _ hb.out hn.out).mono ?_
    rintro e w2 hg
    have fin := Lib.hid (FIN.out _ _ _ hb.out hg)
    obtain ⟨rfl, hg⟩ := hg
    clear hg
    go_wp2_with fail
    go_ret
    exact fin.out

def NewB (w : World) (x : Int) (e : Ending) (w' : World) : Prop := ∃ p, e = .returned (.pointer (some ⟨p, 0, none⟩)) ∧ w.heap.size ≤ p ∧ Ib w' p (decide (x < 0)) x.natAbs ∧ Below w.heap.size w w'
theorem mst_new (w : World) : MSt (w.alloc (.cells #[.bool false, .slice none 0 0] 60)) w.heap.size false (.slice none 0 0) := new_heap _ _
theorem newB (x : Int) (h0 : -9223372036854775808 < x) (h1 : x < 9223372036854775808) (w : World) : Calls Tryz.prog 35 #[.int .i64 x] w (NewB w x) := by
  have C := Lib.hid (setInt_any w.heap.size false none 0 0 x h0 h1 _ (mst_new w))
  have FIN : Hid (∀ e w2, SetPost (w.alloc (.cells #[.bool false, .slice none 0 0] 60)) w.heap.size x e w2 → NewB w x e w2) := Lib.hid fun e w2 ⟨he, hi, hu⟩ =>
    ⟨_, he, Nat.le_refl _, hi, hu.below (bl_one _ _) (Nat.le_refl _)⟩
  clear h0 h1
  go_enter Tryz.func35, Tryz.ntmps35
  go_wp2_with fail
  refine C.out.mono ?_
  rintro e w2 hg
  have fin := Lib.hid (FIN.out _ _ hg)
  obtain ⟨rfl, hg⟩ := hg
  clear hg
  go_wp2_with fail
  go_ret
  exact fin.out

theorem bigSign (z n : Nat) (neg : Bool) (w : World) (h : Ib w z neg n) : Calls Tryz.prog 38 #[.pointer (some ⟨z, 0, none⟩)] w fun e w' => e = .returned (.int .i64 (if n = 0 then 0 else if neg then -1 else 1)) ∧ w = w' := by
  obtain ⟨a, l, c, hs, hn, h0⟩ := h
  have z0 : w.cell? ⟨z, 0, none⟩ = some (.bool neg) := cell_row hs 0
  have z1 : w.cell? ⟨z, 1, none⟩ = some (.slice a l c) := cell_row hs 1
  by_cases hz : n = 0
  · have hl0 : l = 0 := by have := hn.len; omega
    subst hl0 hz
    clear hs hn h0
    go_enter Tryz.func38, Tryz.ntmps38
    go_wp2_with fail
    go_ret
    exact ⟨rfl, rfl⟩
  · rw [if_neg hz]
    have hl0 : 0 < l := hn.len.1 (by omega)
    have hl1 : ((l : Int) == 0) = false := by rw [beq_eq_false_iff_ne]; omega
    clear hs hn h0 hz
    cases neg
    all_goals
      go_enter Tryz.func38, Tryz.ntmps38
      go_wp2_with fail
      go_ret
      exact ⟨rfl, rfl⟩

theorem uint64_any (z n : Nat) (neg : Bool) (w : World) (h : Ib w z neg n) (hlt : n < 18446744073709551616) : Calls Tryz.prog 59 #[.pointer (some ⟨z, 0, none⟩)] w fun e w' => e = .returned (.int .u64 n) ∧ w = w' := by
  obtain ⟨a, l, c, hs, hn, h0⟩ := h
  have z1 : w.cell? ⟨z, 1, none⟩ = some (.slice a l c) := cell_row hs 1
  rcases hn with ⟨rfl, a', c', hv⟩ | ⟨g, c', hv, b, d, e⟩ | ⟨g, c', lo, hi, hv, rfl, d, e, f, k, l⟩ | ⟨g, c, x0, x1, x2, hv, b, d, e, f, k, l, m, o⟩
  · cases hv
    clear hs h0
    go_enter Tryz.func59, Tryz.ntmps59
    go_wp2_with fail
    go_ret
    exact ⟨rfl, rfl⟩
  · cases hv
    clear hs h0
    go_enter Tryz.func59, Tryz.ntmps59
    go_wp2_with fail
    go_ret
    exact ⟨rfl, rfl⟩
  · cases hv
    have ho := or_words lo hi f e
    clear hs h0
    go_enter Tryz.func59, Tryz.ntmps59
    go_wp2_with fail
    go_ret
    exact ⟨rfl, rfl⟩
  · omega

theorem bigInt64 (z n : Nat) (neg : Bool) (w : World) (h : Ib w z neg n) (hlt : n < 9223372036854775808) (x : Int) (hx : x = if neg then -(n : Int) else n) : Calls Tryz.prog 42 #[.pointer (some ⟨z, 0, none⟩)] w fun e w' => e = .returned (.int .i64 x) ∧ w = w' := by
  have C := Lib.hid (uint64_any z n neg w h (by omega))
  obtain ⟨a, l, c, hs, hn, h0⟩ := h
  have z0 : w.cell? ⟨z, 0, none⟩ = some (.bool neg) := cell_row hs 0
  clear hs hn h0
  cases neg
  · simp at hx; subst hx
    go_enter Tryz.func42, Tryz.ntmps42
    go_wp2_with fail
    refine C.out.mono ?_
    rintro e w' ⟨rfl, rfl⟩
    go_wp2_with fail
    go_ret
    exact ⟨rfl, rfl⟩
  · simp at hx; subst hx
    go_enter Tryz.func42, Tryz.ntmps42
    go_wp2_with fail
    refine C.out.mono ?_
    rintro e w' ⟨rfl, rfl⟩
    go_wp2_with fail
    go_ret
    exact ⟨rfl, rfl⟩
end Go.Proofs.YtbmjghgiipibnaaGreatDoor
