/- WALKS of marchref1: Fits, Big, floor. -/
import Derived.Test.YtbmjghgiipibnaaGreatDoorXP
import Derived.Test.YtbmjghgiipibnaaGreatDoorR
namespace Go.Proofs.YtbmjghgiipibnaaGreatDoor
open Go.RowKit
set_option linter.unusedVariables false

theorem rfits_yes (x : Int) (h1 : -1099511627776 ≤ x) (h2 : x ≤ 1099511627776) (w : World) : Calls Tryz.prog 18 #[.int .i64 x] w fun e w' => e = .returned (.bool true) ∧ w = w' := by
  go_enter Tryz.func18, Tryz.ntmps18
  go_wp2_with fail
  go_ret
  exact ⟨rfl, rfl⟩
theorem rfits_low (x : Int) (h1 : x < -1099511627776) (w : World) : Calls Tryz.prog 18 #[.int .i64 x] w fun e w' => e = .returned (.bool false) ∧ w = w' := by
  go_enter Tryz.func18, Tryz.ntmps18
  go_wp2_with fail
  go_ret
  exact ⟨rfl, rfl⟩
theorem rfits_high (x : Int) (h2 : 1099511627776 < x) (w : World) : Calls Tryz.prog 18 #[.int .i64 x] w fun e w' => e = .returned (.bool false) ∧ w = w' := by
  have hb : decide (x ≤ 1099511627776) = false := by rw [decide_eq_false_iff_not]; omega
  go_enter Tryz.func18, Tryz.ntmps18
  go_wp2_with fail
  go_ret
  exact ⟨rfl, rfl⟩
theorem rfits_no (x : Int) (h : ¬ Fits x) (w : World) : Calls Tryz.prog 18 #[.int .i64 x] w fun e w' => e = .returned (.bool false) ∧ w = w' := by
  unfold Fits at h
  by_cases h1 : x < -1099511627776
  · exact rfits_low x h1 w
  · exact rfits_high x (by omega) w
theorem rfits_is (x : Int) (h : Fits x) (w : World) : Calls Tryz.prog 18 #[.int .i64 x] w fun e w' => e = .returned (.bool true) ∧ w = w' := rfits_yes x h.1 h.2 w

theorem big19 (x : Int) (h0 : -9223372036854775808 < x) (h1 : x < 9223372036854775808) (w : World) : Calls Tryz.prog 19 #[.int .i64 x] w (NewB w x) := by
  have C := Lib.hid (newB x h0 h1 w)
  clear h0 h1
  go_enter Tryz.func19, Tryz.ntmps19
  go_wp2_with fail
  refine C.out.mono ?_
  rintro e w1 h
  have h' := Lib.hid h
  obtain ⟨p, rfl, h⟩ := h
  clear h
  go_wp2_with fail
  go_ret
  exact h'.out

structure FloorIn (w W : World) (px pb Q R : Nat) (xn : Bool) (x y : Nat) : Prop where
  ix : Ib W px xn x
  ib : Ib W pb false y
  sq : MSt W Q false (.slice none 0 0)
  sr : MSt W R false (.slice none 0 0)
  up : Upd2 px pb w W
  hq : w.heap.size ≤ Q
  hr : w.heap.size ≤ R
  ne : R ≠ Q

def floorZ (xn : Bool) (x y : Nat) : Int := if xn then (if x % y = 0 then -((x / y : Nat) : Int) else -((x / y : Nat) : Int) - 1) else ((x / y : Nat) : Int)

theorem divmod_any (x y : Nat) (xn : Bool) (y0 : 0 < y) (bY : y < 18446744073709551616) (hxy : x < 18446744073709551616 ∨ y = 65536) (hq : 0 < x % y → x / y < 18446744073709551616) : ∃ zn zq, sgn zn zq = floorZ xn x y ∧
    ∀ (w W : World) (px pb Q R : Nat), FloorIn w W px pb Q R xn x y → Calls Tryz.prog 40 #[.pointer (some ⟨Q, 0, none⟩), .pointer (some ⟨px, 0, none⟩), .pointer (some ⟨pb, 0, none⟩), .pointer (some ⟨R, 0, none⟩)] W (DMB W Q R zn zq) := by
  by_cases h : (xn && decide (0 < x % y)) = true
  · simp only [Bool.and_eq_true, decide_eq_true_eq] at h
    obtain ⟨rfl, hm⟩ := h
    refine ⟨true, x / y + 1, ?_, fun w W px pb Q R I => divmod_down Q R px pb x y _ _ _ _ _ _ _ _ W I.sq I.sr I.ne I.ix I.ib y0 bY hxy (hq hm) hm⟩
    simp only [sgn, floorZ, if_true]
    rw [if_neg (by omega)]
    omega
  · refine ⟨xn && decide (0 < x / y), x / y, ?_, fun w W px pb Q R I => divmod_plain Q R px pb x y xn _ _ _ _ _ _ _ _ W I.sq I.sr I.ne I.ix I.ib y0 bY hxy (by simpa using h)⟩
    unfold sgn floorZ
    cases xn
    · simp
    · simp only [Bool.true_and, decide_eq_true_eq] at h ⊢
      simp only [if_true]
      rw [if_pos (show x % y = 0 by omega)]
      by_cases h0 : 0 < x / y
      · simp [h0]
      · have e : x / y = 0 := Nat.le_zero.1 (Nat.not_lt.1 h0)
        simp [e]

def floorV (z : Int) : Ending := if Fits z then .returned (.tuple #[.int .i64 z, .int .i64 0]) else .returned (.tuple #[.int .i64 0, .int .i64 4])
def FloorPost (w : World) (px pb : Nat) (z : Int) (e : Ending) (w' : World) : Prop := e = floorV z ∧ Upd2 px pb w w'

theorem floor_frame {w W w3 w5 w6 : World} {px pb Q R : Nat} {xn : Bool} {x y : Nat} (I : FloorIn w W px pb Q R xn x y) (h3 : Upd2 Q R W w3) (h5 : Below w3.heap.size w3 w5) (h6 : w6.heap = w5.heap) (o6 : w6.os = w5.os) (t6 : w6.tape = w5.tape) (p6 : w6.output = w5.output) : Upd2 px pb w w6 := by
  have a := I.up
  have z3 := h3.size
  have z := a.size
  refine ⟨o6.trans (h5.os.trans (h3.os.trans a.os)), t6.trans (h5.tape.trans (h3.tape.trans a.tape)), p6.trans (h5.output.trans (h3.output.trans a.output)), by rw [h6]; exact Nat.le_trans z (Nat.le_trans z3 h5.size), fun k hk h1 h2 => ?_⟩
  rw [h6, h5.block k (by omega), h3.block k (by omega) (by have := I.hq; omega) (by have := I.hr; omega)]
  exact a.block k hk h1 h2
theorem Ib.heap {w w' : World} {p n : Nat} {b : Bool} (h : Ib w p b n) (hw : w'.heap = w.heap) : Ib w' p b n := by
  obtain ⟨a, l, c, hs, hn, h0⟩ := h
  exact ⟨a, l, c, hs.heap hw, hn.heap hw, h0⟩

/-- without a turned sign -/
theorem floorIn_plain {w : World} {px pb x y : Nat} {xn : Bool} (hx : Ib w px xn x) (hy : Ib w pb false y) :
    FloorIn w ((w.alloc (.cells #[.bool false, .slice none 0 0] 60)).alloc (.cells #[.bool false, .slice none 0 0] 60)) px pb w.heap.size (w.heap.size + 1) xn x y :=
  ⟨hx.below (bl_two _ _ _), hy.below (bl_two _ _ _), (old_heap _ _ _ (by simp)).trans (new_heap _ _), new_heap2 _ _ _, Upd2.of_below (bl_two _ _ _), Nat.le_refl _, by omega, by omega⟩
/-- both signs turned -/
theorem floorIn_neg {w W1 W2 : World} {px pb x y : Nat} {xn : Bool} {e1 e2 : Ending} (hx : Ib w px xn x) (hy : Ib w pb true y) (hne : px ≠ pb)
    (g1 : GivePost ((w.alloc (.cells #[.bool false, .slice none 0 0] 60)).alloc (.cells #[.bool false, .slice none 0 0] 60)) px (!xn) x e1 W1) (g2 : GivePost W1 pb (!true) y e2 W2) :
    FloorIn w W2 px pb w.heap.size (w.heap.size + 1) ((!xn) && decide (0 < x)) x y := by
  obtain ⟨_, i1, u1⟩ := g1
  obtain ⟨_, i2, u2⟩ := g2
  obtain ⟨_, _, _, sx⟩ := hx.st
  obtain ⟨_, _, _, sy⟩ := hy.st
  have B := bl_two w (.cells #[.bool false, .slice none 0 0] 60) (.cells #[.bool false, .slice none 0 0] 60)
  have lx := sx.lt
  have ly := sy.lt
  have sy1 := (u1.block pb (Nat.lt_of_lt_of_le ly B.size) (Ne.symm hne)).trans (sy.below B)
  have far : ∀ k, w.heap.size ≤ k → k < ((w.alloc (.cells #[.bool false, .slice none 0 0] 60)).alloc (.cells #[.bool false, .slice none 0 0] 60)).heap.size → W2.heap[k]? = ((w.alloc (.cells #[.bool false, .slice none 0 0] 60)).alloc (.cells #[.bool false, .slice none 0 0] 60)).heap[k]? := fun k h1 h2 =>
    (u2.block k (Nat.lt_of_lt_of_le h2 u1.size) (by omega)).trans (u1.block k h2 (by omega))
  refine ⟨i1.keep (v := .bool true) u2 sy1 hne, by simpa using i2, ?_, ?_, ((Upd2.of_below B).trans (Upd2.of1 u1)).trans (Upd2.of2 u2), Nat.le_refl _, by omega, by omega⟩
  · exact (far _ (Nat.le_refl _) (by simp; omega)).trans ((old_heap _ _ _ (by simp)).trans (new_heap _ _))
  · exact (far _ (by omega) (by simp)).trans (new_heap2 _ _ _)

set_option maxRecDepth 100000 in
theorem floor_high_plain (px pb x y : Nat) (xn : Bool) (w : World) (hx : Ib w px xn x) (hy : Ib w pb false y) (hne : px ≠ pb) (y0 : 0 < y) (bY : y < 18446744073709551616) (hxy : x < 18446744073709551616 ∨ y = 65536) (hq : 0 < x % y → x / y < 18446744073709551616)
    (Z : Int) (hZ : floorZ xn x y = Z) (hf : 1099511627776 < Z) : Calls Tryz.prog 21 #[.pointer (some ⟨px, 0, none⟩), .pointer (some ⟨pb, 0, none⟩)] w (FloorPost w px pb Z) := by
  obtain ⟨zn, zq, hz, DM⟩ := divmod_any x y xn y0 bY hxy hq
  rw [hZ] at hz
  have HZ := Lib.hid hz
  replace DM := Lib.hid DM
  have B1 := Lib.hid (fun w => big19 1099511627776 (by omega) (by omega) w)
  have B2 := Lib.hid (fun w => big19 (-1099511627776) (by omega) (by omega) w)
  have HF := Lib.hid (show sgn false (1099511627776 : Int).natAbs < Z from hf)
  have VF := Lib.hid (show floorV Z = .returned (.tuple #[.int .i64 0, .int .i64 4]) from if_neg (by unfold Fits; omega))
  have SG := Lib.hid (fun W (h : W.heap = ((w.alloc (.cells #[.bool false, .slice none 0 0] 60)).alloc (.cells #[.bool false, .slice none 0 0] 60)).heap) => bigSign pb y false W ((hy.below (bl_two _ _ _)).heap h))
  rw [show (if y = 0 then (0 : Int) else if false = true then -1 else 1) = 1 by rw [if_neg (by omega)]; rfl] at SG
  have I := Lib.hid (floorIn_plain hx hy)
  clear hx hy y0 bY hxy hq hZ hz hf
  go_enter Tryz.func21, Tryz.ntmps21
  go_wp2_with fail
  refine (SG.out _ rfl).mono ?_
  rintro e w1 ⟨rfl, rfl⟩
  go_wp2_with fail
  refine (DM.out _ _ _ _ _ _ I.out).mono ?_
  rintro e w3 ⟨rfl, iq, u3⟩
  replace iq := Lib.hid iq
  replace u3 := Lib.hid u3
  go_wp2_with fail
  refine (B1.out _).mono ?_
  rintro e w4 ⟨p1, rfl, _, i1, hB4⟩
  replace i1 := Lib.hid i1
  replace hB4 := Lib.hid hB4
  go_wp2_with fail
  refine (B2.out _).mono ?_
  rintro e w5 ⟨p2, rfl, _, i2, hB5⟩
  replace i2 := Lib.hid i2
  replace hB5 := Lib.hid hB5
  have hB := Lib.hid (hB4.out.trans (hB5.out.mono hB4.out.size))
  have iq5 := Lib.hid (iq.out.below hB.out)
  go_wp2_with fail
  refine (bigCmp _ _ _ _ _ _ w5 iq5.out (i1.out.below hB5.out) (by simp)).mono ?_
  rintro e w6 ⟨r1, rfl, h1, h2, m1, rfl⟩
  rw [HZ.out] at h1
  have hr : 0 < r1 := h1.2 HF.out
  clear h1 h2
  go_wp2_with fail
  go_ret2
  exact ⟨VF.out.symm, floor_frame I.out u3.out hB.out rfl rfl rfl rfl⟩

set_option maxRecDepth 100000 in
theorem floor_low_plain (px pb x y : Nat) (xn : Bool) (w : World) (hx : Ib w px xn x) (hy : Ib w pb false y) (hne : px ≠ pb) (y0 : 0 < y) (bY : y < 18446744073709551616) (hxy : x < 18446744073709551616 ∨ y = 65536) (hq : 0 < x % y → x / y < 18446744073709551616)
    (Z : Int) (hZ : floorZ xn x y = Z) (hf : Z < -1099511627776) : Calls Tryz.prog 21 #[.pointer (some ⟨px, 0, none⟩), .pointer (some ⟨pb, 0, none⟩)] w (FloorPost w px pb Z) := by
  obtain ⟨zn, zq, hz, DM⟩ := divmod_any x y xn y0 bY hxy hq
  rw [hZ] at hz
  have HZ := Lib.hid hz
  replace DM := Lib.hid DM
  have B1 := Lib.hid (fun w => big19 1099511627776 (by omega) (by omega) w)
  have B2 := Lib.hid (fun w => big19 (-1099511627776) (by omega) (by omega) w)
  have HG := Lib.hid (show Z ≤ sgn false (1099511627776 : Int).natAbs from by show Z ≤ (1099511627776 : Int); omega)
  have HF := Lib.hid (show Z < sgn true (-1099511627776 : Int).natAbs from hf)
  have VF := Lib.hid (show floorV Z = .returned (.tuple #[.int .i64 0, .int .i64 4]) from if_neg (by unfold Fits; omega))
  have SG := Lib.hid (fun W (h : W.heap = ((w.alloc (.cells #[.bool false, .slice none 0 0] 60)).alloc (.cells #[.bool false, .slice none 0 0] 60)).heap) => bigSign pb y false W ((hy.below (bl_two _ _ _)).heap h))
  rw [show (if y = 0 then (0 : Int) else if false = true then -1 else 1) = 1 by rw [if_neg (by omega)]; rfl] at SG
  have I := Lib.hid (floorIn_plain hx hy)
  clear hx hy y0 bY hxy hq hZ hz hf
  go_enter Tryz.func21, Tryz.ntmps21
  go_wp2_with fail
  refine (SG.out _ rfl).mono ?_
  rintro e w1 ⟨rfl, rfl⟩
  go_wp2_with fail
  refine (DM.out _ _ _ _ _ _ I.out).mono ?_
  rintro e w3 ⟨rfl, iq, u3⟩
  replace iq := Lib.hid iq
  replace u3 := Lib.hid u3
  go_wp2_with fail
  refine (B1.out _).mono ?_
  rintro e w4 ⟨p1, rfl, _, i1, hB4⟩
  replace i1 := Lib.hid i1
  replace hB4 := Lib.hid hB4
  go_wp2_with fail
  refine (B2.out _).mono ?_
  rintro e w5 ⟨p2, rfl, _, i2, hB5⟩
  replace i2 := Lib.hid i2
  replace hB5 := Lib.hid hB5
  have hB := Lib.hid (hB4.out.trans (hB5.out.mono hB4.out.size))
  have iq5 := Lib.hid (iq.out.below hB.out)
  go_wp2_with fail
  refine (bigCmp _ _ _ _ _ _ w5 iq5.out (i1.out.below hB5.out) (by simp)).mono ?_
  rintro e w6 ⟨r1, rfl, h1, h2, m1, rfl⟩
  rw [HZ.out] at h1
  have hr : r1 ≤ 0 := Int.not_lt.1 fun h => absurd (h1.1 h) (Int.not_lt.2 HG.out)
  clear h1 h2
  go_wp2_with fail
  refine (bigCmp _ _ _ _ _ _ (w5.drewN m1) (iq5.out.heap rfl) (i2.out.heap rfl) (by simp)).mono ?_
  rintro e w6 ⟨r2, rfl, h1, h2, m2, rfl⟩
  rw [HZ.out] at h2
  have hr2 : r2 < 0 := h2.2 HF.out
  clear h1 h2
  go_wp2_with fail
  go_ret2
  exact ⟨VF.out.symm, floor_frame I.out u3.out hB.out rfl rfl rfl rfl⟩

set_option maxRecDepth 100000 in
theorem floor_fits_plain (px pb x y : Nat) (xn : Bool) (w : World) (hx : Ib w px xn x) (hy : Ib w pb false y) (hne : px ≠ pb) (y0 : 0 < y) (bY : y < 18446744073709551616) (hxy : x < 18446744073709551616 ∨ y = 65536) (hq : 0 < x % y → x / y < 18446744073709551616)
    (Z : Int) (hZ : floorZ xn x y = Z) (hf : Fits Z) : Calls Tryz.prog 21 #[.pointer (some ⟨px, 0, none⟩), .pointer (some ⟨pb, 0, none⟩)] w (FloorPost w px pb Z) := by
  obtain ⟨zn, zq, hz, DM⟩ := divmod_any x y xn y0 bY hxy hq
  rw [hZ] at hz
  have HZ := Lib.hid hz
  replace DM := Lib.hid DM
  have B1 := Lib.hid (fun w => big19 1099511627776 (by omega) (by omega) w)
  have B2 := Lib.hid (fun w => big19 (-1099511627776) (by omega) (by omega) w)
  have HG := Lib.hid (show Z ≤ sgn false (1099511627776 : Int).natAbs from by show Z ≤ (1099511627776 : Int); unfold Fits at hf; omega)
  have HL := Lib.hid (show sgn true (-1099511627776 : Int).natAbs ≤ Z from by show (-1099511627776 : Int) ≤ Z; unfold Fits at hf; omega)
  have VF := Lib.hid (show floorV Z = .returned (.tuple #[.int .i64 Z, .int .i64 0]) from if_pos hf)
  have I64 := Lib.hid (fun W (h : Ib W w.heap.size zn zq) => bigInt64 w.heap.size zq zn W h (by unfold Fits at hf; rw [← hz] at hf; unfold sgn at hf; cases zn <;> simp at hf <;> omega) Z hz.symm)
  have SG := Lib.hid (fun W (h : W.heap = ((w.alloc (.cells #[.bool false, .slice none 0 0] 60)).alloc (.cells #[.bool false, .slice none 0 0] 60)).heap) => bigSign pb y false W ((hy.below (bl_two _ _ _)).heap h))
  rw [show (if y = 0 then (0 : Int) else if false = true then -1 else 1) = 1 by rw [if_neg (by omega)]; rfl] at SG
  have I := Lib.hid (floorIn_plain hx hy)
  clear hx hy y0 bY hxy hq hZ hz hf
  go_enter Tryz.func21, Tryz.ntmps21
  go_wp2_with fail
  refine (SG.out _ rfl).mono ?_
  rintro e w1 ⟨rfl, rfl⟩
  go_wp2_with fail
  refine (DM.out _ _ _ _ _ _ I.out).mono ?_
  rintro e w3 ⟨rfl, iq, u3⟩
  replace iq := Lib.hid iq
  replace u3 := Lib.hid u3
  go_wp2_with fail
  refine (B1.out _).mono ?_
  rintro e w4 ⟨p1, rfl, _, i1, hB4⟩
  replace i1 := Lib.hid i1
  replace hB4 := Lib.hid hB4
  go_wp2_with fail
  refine (B2.out _).mono ?_
  rintro e w5 ⟨p2, rfl, _, i2, hB5⟩
  replace i2 := Lib.hid i2
  replace hB5 := Lib.hid hB5
  have hB := Lib.hid (hB4.out.trans (hB5.out.mono hB4.out.size))
  have iq5 := Lib.hid (iq.out.below hB.out)
  go_wp2_with fail
  refine (bigCmp _ _ _ _ _ _ w5 iq5.out (i1.out.below hB5.out) (by simp)).mono ?_
  rintro e w6 ⟨r1, rfl, h1, h2, m1, rfl⟩
  rw [HZ.out] at h1
  have hr : r1 ≤ 0 := Int.not_lt.1 fun h => absurd (h1.1 h) (Int.not_lt.2 HG.out)
  clear h1 h2
  go_wp2_with fail
  refine (bigCmp _ _ _ _ _ _ (w5.drewN m1) (iq5.out.heap rfl) (i2.out.heap rfl) (by simp)).mono ?_
  rintro e w6 ⟨r2, rfl, h1, h2, m2, rfl⟩
  rw [HZ.out] at h2
  have hr2 : 0 ≤ r2 := Int.not_lt.1 fun h => absurd (h2.1 h) (Int.not_lt.2 HL.out)
  clear h1 h2
  go_wp2_with fail
  refine (I64.out (w5.drewN (m1 + m2)) (iq5.out.heap rfl)).mono ?_
  rintro e w7 ⟨rfl, rfl⟩
  go_wp2_with fail
  go_ret2
  exact ⟨VF.out.symm, floor_frame I.out u3.out hB.out rfl rfl rfl rfl⟩

set_option maxRecDepth 100000 in
theorem floor_high_neg (px pb x y : Nat) (xn : Bool) (w : World) (hx : Ib w px xn x) (hy : Ib w pb true y) (hne : px ≠ pb) (y0 : 0 < y) (bY : y < 18446744073709551616) (hxy : x < 18446744073709551616 ∨ y = 65536) (hq : 0 < x % y → x / y < 18446744073709551616)
    (Z : Int) (hZ : floorZ ((!xn) && decide (0 < x)) x y = Z) (hf : 1099511627776 < Z) : Calls Tryz.prog 21 #[.pointer (some ⟨px, 0, none⟩), .pointer (some ⟨pb, 0, none⟩)] w (FloorPost w px pb Z) := by
  obtain ⟨zn, zq, hz, DM⟩ := divmod_any x y ((!xn) && decide (0 < x)) y0 bY hxy hq
  rw [hZ] at hz
  have HZ := Lib.hid hz
  replace DM := Lib.hid DM
  have B1 := Lib.hid (fun w => big19 1099511627776 (by omega) (by omega) w)
  have B2 := Lib.hid (fun w => big19 (-1099511627776) (by omega) (by omega) w)
  have HF := Lib.hid (show sgn false (1099511627776 : Int).natAbs < Z from hf)
  have VF := Lib.hid (show floorV Z = .returned (.tuple #[.int .i64 0, .int .i64 4]) from if_neg (by unfold Fits; omega))
  obtain ⟨_, _, _, sx⟩ := hx.st
  obtain ⟨_, _, _, sy⟩ := hy.st
  have SG := Lib.hid (fun W (h : W.heap = ((w.alloc (.cells #[.bool false, .slice none 0 0] 60)).alloc (.cells #[.bool false, .slice none 0 0] 60)).heap) => bigSign pb y true W ((hy.below (bl_two _ _ _)).heap h))
  rw [show (if y = 0 then (0 : Int) else if true = true then -1 else 1) = -1 by rw [if_neg (by omega)]; rfl] at SG
  have N1 := Lib.hid (bigNeg px px x xn xn _ _ _ ((w.alloc (.cells #[.bool false, .slice none 0 0] 60)).alloc (.cells #[.bool false, .slice none 0 0] 60)) (sx.below (bl_two _ _ _)) (hx.below (bl_two _ _ _)))
  have N2 := Lib.hid (fun W1 (hu : Upd px ((w.alloc (.cells #[.bool false, .slice none 0 0] 60)).alloc (.cells #[.bool false, .slice none 0 0] 60)) W1) => bigNeg pb pb y true true _ _ _ W1 ((hu.block pb (Nat.lt_of_lt_of_le sy.lt (bl_two _ _ _).size) (Ne.symm hne)).trans (sy.below (bl_two _ _ _))) ((hy.below (bl_two _ _ _)).keep (v := .bool true) hu (sx.below (bl_two _ _ _)) (Ne.symm hne)))
  have FI := Lib.hid (fun W1 W2 e1 e2 g1 g2 => floorIn_neg (W1 := W1) (W2 := W2) (e1 := e1) (e2 := e2) hx hy hne g1 g2)
  clear hx hy sx sy y0 bY hxy hq hZ hz hf
  go_enter Tryz.func21, Tryz.ntmps21
  go_wp2_with fail
  refine (SG.out _ rfl).mono ?_
  rintro e w1 ⟨rfl, rfl⟩
  go_wp2_with fail
  refine N1.out.mono ?_
  rintro e w1 g1
  replace g1 := Lib.hid g1
  obtain ⟨he, hu1⟩ : e = .returned (.pointer (some ⟨px, 0, none⟩)) ∧ Hid (Upd px ((w.alloc (.cells #[.bool false, .slice none 0 0] 60)).alloc (.cells #[.bool false, .slice none 0 0] 60)) w1) := ⟨g1.out.1, Lib.hid g1.out.2.2⟩
  subst he
  go_wp2_with fail
  refine (N2.out _ hu1.out).mono ?_
  rintro e w2 g2
  have I := Lib.hid (FI.out _ _ _ _ g1.out g2)
  obtain ⟨rfl, g2⟩ := g2
  clear g2
  go_wp2_with fail
  refine (DM.out _ _ _ _ _ _ I.out).mono ?_
  rintro e w3 ⟨rfl, iq, u3⟩
  replace iq := Lib.hid iq
  replace u3 := Lib.hid u3
  go_wp2_with fail
  refine (B1.out _).mono ?_
  rintro e w4 ⟨p1, rfl, _, i1, hB4⟩
  replace i1 := Lib.hid i1
  replace hB4 := Lib.hid hB4
  go_wp2_with fail
  refine (B2.out _).mono ?_
  rintro e w5 ⟨p2, rfl, _, i2, hB5⟩
  replace i2 := Lib.hid i2
  replace hB5 := Lib.hid hB5
  have hB := Lib.hid (hB4.out.trans (hB5.out.mono hB4.out.size))
  have iq5 := Lib.hid (iq.out.below hB.out)
  go_wp2_with fail
  refine (bigCmp _ _ _ _ _ _ w5 iq5.out (i1.out.below hB5.out) (by simp)).mono ?_
  rintro e w6 ⟨r1, rfl, h1, h2, m1, rfl⟩
  rw [HZ.out] at h1
  have hr : 0 < r1 := h1.2 HF.out
  clear h1 h2
  go_wp2_with fail
  go_ret2
  exact ⟨VF.out.symm, floor_frame I.out u3.out hB.out rfl rfl rfl rfl⟩

set_option maxRecDepth 100000 in
theorem floor_low_neg (px pb x y : Nat) (xn : Bool) (w : World) (hx : Ib w px xn x) (hy : Ib w pb true y) (hne : px ≠ pb) (y0 : 0 < y) (bY : y < 18446744073709551616) (hxy : x < 18446744073709551616 ∨ y = 65536) (hq : 0 < x % y → x / y < 18446744073709551616)
    (Z : Int) (hZ : floorZ ((!xn) && decide (0 < x)) x y = Z) (hf : Z < -1099511627776) : Calls Tryz.prog 21 #[.pointer (some ⟨px, 0, none⟩), .pointer (some ⟨pb, 0, none⟩)] w (FloorPost w px pb Z) := by
  obtain ⟨zn, zq, hz, DM⟩ := divmod_any x y ((!xn) && decide (0 < x)) y0 bY hxy hq
  rw [hZ] at hz
  have HZ := Lib.hid hz
  replace DM := Lib.hid DM
  have B1 := Lib.hid (fun w => big19 1099511627776 (by omega) (by omega) w)
  have B2 := Lib.hid (fun w => big19 (-1099511627776) (by omega) (by omega) w)
  have HG := Lib.hid (show Z ≤ sgn false (1099511627776 : Int).natAbs from by show Z ≤ (1099511627776 : Int); omega)
  have HF := Lib.hid (show Z < sgn true (-1099511627776 : Int).natAbs from hf)
  have VF := Lib.hid (show floorV Z = .returned (.tuple #[.int .i64 0, .int .i64 4]) from if_neg (by unfold Fits; omega))
  obtain ⟨_, _, _, sx⟩ := hx.st
  obtain ⟨_, _, _, sy⟩ := hy.st
  have SG := Lib.hid (fun W (h : W.heap = ((w.alloc (.cells #[.bool false, .slice none 0 0] 60)).alloc (.cells #[.bool false, .slice none 0 0] 60)).heap) => bigSign pb y true W ((hy.below (bl_two _ _ _)).heap h))
  rw [show (if y = 0 then (0 : Int) else if true = true then -1 else 1) = -1 by rw [if_neg (by omega)]; rfl] at SG
  have N1 := Lib.hid (bigNeg px px x xn xn _ _ _ ((w.alloc (.cells #[.bool false, .slice none 0 0] 60)).alloc (.cells #[.bool false, .slice none 0 0] 60)) (sx.below (bl_two _ _ _)) (hx.below (bl_two _ _ _)))
  have N2 := Lib.hid (fun W1 (hu : Upd px ((w.alloc (.cells #[.bool false, .slice none 0 0] 60)).alloc (.cells #[.bool false, .slice none 0 0] 60)) W1) => bigNeg pb pb y true true _ _ _ W1 ((hu.block pb (Nat.lt_of_lt_of_le sy.lt (bl_two _ _ _).size) (Ne.symm hne)).trans (sy.below (bl_two _ _ _))) ((hy.below (bl_two _ _ _)).keep (v := .bool true) hu (sx.below (bl_two _ _ _)) (Ne.symm hne)))
  have FI := Lib.hid (fun W1 W2 e1 e2 g1 g2 => floorIn_neg (W1 := W1) (W2 := W2) (e1 := e1) (e2 := e2) hx hy hne g1 g2)
  clear hx hy sx sy y0 bY hxy hq hZ hz hf
  go_enter Tryz.func21, Tryz.ntmps21
  go_wp2_with fail
  refine (SG.out _ rfl).mono ?_
  rintro e w1 ⟨rfl, rfl⟩
  go_wp2_with fail
  refine N1.out.mono ?_
  rintro e w1 g1
  replace g1 := Lib.hid g1
  obtain ⟨he, hu1⟩ : e = .returned (.pointer (some ⟨px, 0, none⟩)) ∧ Hid (Upd px ((w.alloc (.cells #[.bool false, .slice none 0 0] 60)).alloc (.cells #[.bool false, .slice none 0 0] 60)) w1) := ⟨g1.out.1, Lib.hid g1.out.2.2⟩
  subst he
  go_wp2_with fail
  refine (N2.out _ hu1.out).mono ?_
  rintro e w2 g2
  have I := Lib.hid (FI.out _ _ _ _ g1.out g2)
  obtain ⟨rfl, g2⟩ := g2
  clear g2
  go_wp2_with fail
  refine (DM.out _ _ _ _ _ _ I.out).mono ?_
  rintro e w3 ⟨rfl, iq, u3⟩
  replace iq := Lib.hid iq
  replace u3 := Lib.hid u3
  go_wp2_with fail
  refine (B1.out _).mono ?_
  rintro e w4 ⟨p1, rfl, _, i1, hB4⟩
  replace i1 := Lib.hid i1
  replace hB4 := Lib.hid hB4
  go_wp2_with fail
  refine (B2.out _).mono ?_
  rintro e w5 ⟨p2, rfl, _, i2, hB5⟩
  replace i2 := Lib.hid i2
  replace hB5 := Lib.hid hB5
  have hB := Lib.hid (hB4.out.trans (hB5.out.mono hB4.out.size))
  have iq5 := Lib.hid (iq.out.below hB.out)
  go_wp2_with fail
  refine (bigCmp _ _ _ _ _ _ w5 iq5.out (i1.out.below hB5.out) (by simp)).mono ?_
  rintro e w6 ⟨r1, rfl, h1, h2, m1, rfl⟩
  rw [HZ.out] at h1
  have hr : r1 ≤ 0 := Int.not_lt.1 fun h => absurd (h1.1 h) (Int.not_lt.2 HG.out)
  clear h1 h2
  go_wp2_with fail
  refine (bigCmp _ _ _ _ _ _ (w5.drewN m1) (iq5.out.heap rfl) (i2.out.heap rfl) (by simp)).mono ?_
  rintro e w6 ⟨r2, rfl, h1, h2, m2, rfl⟩
  rw [HZ.out] at h2
  have hr2 : r2 < 0 := h2.2 HF.out
  clear h1 h2
  go_wp2_with fail
  go_ret2
  exact ⟨VF.out.symm, floor_frame I.out u3.out hB.out rfl rfl rfl rfl⟩

set_option maxRecDepth 100000 in
theorem floor_fits_neg (px pb x y : Nat) (xn : Bool) (w : World) (hx : Ib w px xn x) (hy : Ib w pb true y) (hne : px ≠ pb) (y0 : 0 < y) (bY : y < 18446744073709551616) (hxy : x < 18446744073709551616 ∨ y = 65536) (hq : 0 < x % y → x / y < 18446744073709551616)
    (Z : Int) (hZ : floorZ ((!xn) && decide (0 < x)) x y = Z) (hf : Fits Z) : Calls Tryz.prog 21 #[.pointer (some ⟨px, 0, none⟩), .pointer (some ⟨pb, 0, none⟩)] w (FloorPost w px pb Z) := by
  obtain ⟨zn, zq, hz, DM⟩ := divmod_any x y ((!xn) && decide (0 < x)) y0 bY hxy hq
  rw [hZ] at hz
  have HZ := Lib.hid hz
  replace DM := Lib.hid DM
  have B1 := Lib.hid (fun w => big19 1099511627776 (by omega) (by omega) w)
  have B2 := Lib.hid (fun w => big19 (-1099511627776) (by omega) (by omega) w)
  have HG := Lib.hid (show Z ≤ sgn false (1099511627776 : Int).natAbs from by show Z ≤ (1099511627776 : Int); unfold Fits at hf; omega)
  have HL := Lib.hid (show sgn true (-1099511627776 : Int).natAbs ≤ Z from by show (-1099511627776 : Int) ≤ Z; unfold Fits at hf; omega)
  have VF := Lib.hid (show floorV Z = .returned (.tuple #[.int .i64 Z, .int .i64 0]) from if_pos hf)
  have I64 := Lib.hid (fun W (h : Ib W w.heap.size zn zq) => bigInt64 w.heap.size zq zn W h (by unfold Fits at hf; rw [← hz] at hf; unfold sgn at hf; cases zn <;> simp at hf <;> omega) Z hz.symm)
  obtain ⟨_, _, _, sx⟩ := hx.st
  obtain ⟨_, _, _, sy⟩ := hy.st
  have SG := Lib.hid (fun W (h : W.heap = ((w.alloc (.cells #[.bool false, .slice none 0 0] 60)).alloc (.cells #[.bool false, .slice none 0 0] 60)).heap) => bigSign pb y true W ((hy.below (bl_two _ _ _)).heap h))
  rw [show (if y = 0 then (0 : Int) else if true = true then -1 else 1) = -1 by rw [if_neg (by omega)]; rfl] at SG
  have N1 := Lib.hid (bigNeg px px x xn xn _ _ _ ((w.alloc (.cells #[.bool false, .slice none 0 0] 60)).alloc (.cells #[.bool false, .slice none 0 0] 60)) (sx.below (bl_two _ _ _)) (hx.below (bl_two _ _ _)))
  have N2 := Lib.hid (fun W1 (hu : Upd px ((w.alloc (.cells #[.bool false, .slice none 0 0] 60)).alloc (.cells #[.bool false, .slice none 0 0] 60)) W1) => bigNeg pb pb y true true _ _ _ W1 ((hu.block pb (Nat.lt_of_lt_of_le sy.lt (bl_two _ _ _).size) (Ne.symm hne)).trans (sy.below (bl_two _ _ _))) ((hy.below (bl_two _ _ _)).keep (v := .bool true) hu (sx.below (bl_two _ _ _)) (Ne.symm hne)))
  have FI := Lib.hid (fun W1 W2 e1 e2 g1 g2 => floorIn_neg (W1 := W1) (W2 := W2) (e1 := e1) (e2 := e2) hx hy hne g1 g2)
  clear hx hy sx sy y0 bY hxy hq hZ hz hf
  go_enter Tryz.func21, Tryz.ntmps21
  go_wp2_with fail
  refine (SG.out _ rfl).mono ?_
  rintro e w1 ⟨rfl, rfl⟩
  go_wp2_with fail
  refine N1.out.mono ?_
  rintro e w1 g1
  replace g1 := Lib.hid g1
  obtain ⟨he, hu1⟩ : e = .returned (.pointer (some ⟨px, 0, none⟩)) ∧ Hid (Upd px ((w.alloc (.cells #[.bool false, .slice none 0 0] 60)).alloc (.cells #[.bool false, .slice none 0 0] 60)) w1) := ⟨g1.out.1, Lib.hid g1.out.2.2⟩
  subst he
  go_wp2_with fail
  refine (N2.out _ hu1.out).mono ?_
  rintro e w2 g2
  have I := Lib.hid (FI.out _ _ _ _ g1.out g2)
  obtain ⟨rfl, g2⟩ := g2
  clear g2
  go_wp2_with fail
  refine (DM.out _ _ _ _ _ _ I.out).mono ?_
  rintro e w3 ⟨rfl, iq, u3⟩
  replace iq := Lib.hid iq
  replace u3 := Lib.hid u3
  go_wp2_with fail
  refine (B1.out _).mono ?_
  rintro e w4 ⟨p1, rfl, _, i1, hB4⟩
  replace i1 := Lib.hid i1
  replace hB4 := Lib.hid hB4
  go_wp2_with fail
  refine (B2.out _).mono ?_
  rintro e w5 ⟨p2, rfl, _, i2, hB5⟩
  replace i2 := Lib.hid i2
  replace hB5 := Lib.hid hB5
  have hB := Lib.hid (hB4.out.trans (hB5.out.mono hB4.out.size))
  have iq5 := Lib.hid (iq.out.below hB.out)
  go_wp2_with fail
  refine (bigCmp _ _ _ _ _ _ w5 iq5.out (i1.out.below hB5.out) (by simp)).mono ?_
  rintro e w6 ⟨r1, rfl, h1, h2, m1, rfl⟩
  rw [HZ.out] at h1
  have hr : r1 ≤ 0 := Int.not_lt.1 fun h => absurd (h1.1 h) (Int.not_lt.2 HG.out)
  clear h1 h2
  go_wp2_with fail
  refine (bigCmp _ _ _ _ _ _ (w5.drewN m1) (iq5.out.heap rfl) (i2.out.heap rfl) (by simp)).mono ?_
  rintro e w6 ⟨r2, rfl, h1, h2, m2, rfl⟩
  rw [HZ.out] at h2
  have hr2 : 0 ≤ r2 := Int.not_lt.1 fun h => absurd (h2.1 h) (Int.not_lt.2 HL.out)
  clear h1 h2
  go_wp2_with fail
  refine (I64.out (w5.drewN (m1 + m2)) (iq5.out.heap rfl)).mono ?_
  rintro e w7 ⟨rfl, rfl⟩
  go_wp2_with fail
  go_ret2
  exact ⟨VF.out.symm, floor_frame I.out u3.out hB.out rfl rfl rfl rfl⟩

end Go.Proofs.YtbmjghgiipibnaaGreatDoor
