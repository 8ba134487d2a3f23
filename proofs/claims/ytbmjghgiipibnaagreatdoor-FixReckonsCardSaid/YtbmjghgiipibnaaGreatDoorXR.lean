/- WALKS of marchref1: Mul, Div, Small. -/
import Derived.Test.YtbmjghgiipibnaaGreatDoorXQ
namespace Go.Proofs.YtbmjghgiipibnaaGreatDoor
open Go.RowKit
set_option linter.unusedVariables false

theorem floor_any (px pb x y : Nat) (xn yn : Bool) (w : World) (hx : Ib w px xn x) (hy : Ib w pb yn y) (hne : px ≠ pb) (y0 : 0 < y) (bY : y < 18446744073709551616) (hxy : x < 18446744073709551616 ∨ y = 65536) (hq : 0 < x % y → x / y < 18446744073709551616) (hx0 : x = 0 → xn = false) :
    Calls Tryz.prog 21 #[.pointer (some ⟨px, 0, none⟩), .pointer (some ⟨pb, 0, none⟩)] w (FloorPost w px pb (downZ xn yn x y)) := by
  have tri : ∀ Z : Int, 1099511627776 < Z ∨ Z < -1099511627776 ∨ Fits Z := fun Z => by unfold Fits; omega
  cases yn
  · have e : floorZ xn x y = downZ xn false x y := by unfold floorZ downZ; cases xn <;> rfl
    rcases tri (downZ xn false x y) with h | h | h
    · exact floor_high_plain px pb x y xn w hx hy hne y0 bY hxy hq _ e h
    · exact floor_low_plain px pb x y xn w hx hy hne y0 bY hxy hq _ e h
    · exact floor_fits_plain px pb x y xn w hx hy hne y0 bY hxy hq _ e h
  · have e : floorZ ((!xn) && decide (0 < x)) x y = downZ xn true x y := by
      unfold floorZ downZ
      by_cases h0 : 0 < x
      · cases xn <;> simp [h0]
      · have h0' : x = 0 := by omega
        subst h0'
        rw [hx0 rfl]
        simp
    rcases tri (downZ xn true x y) with h | h | h
    · exact floor_high_neg px pb x y xn w hx hy hne y0 bY hxy hq _ e h
    · exact floor_low_neg px pb x y xn w hx hy hne y0 bY hxy hq _ e h
    · exact floor_fits_neg px pb x y xn w hx hy hne y0 bY hxy hq _ e h

def rrangeV : Ending := .returned (.tuple #[.int .i64 0, .int .i64 1])
def rmulV (a b : Int) : Ending := if Fits a ∧ Fits b then floorV (downZ (prodNeg a b) false (a.natAbs * b.natAbs) 65536) else rrangeV
def rdivV (a b : Int) : Ending := if Fits a ∧ Fits b ∧ b ≠ 0 then floorV (downZ (prodNeg a 65536) (decide (b < 0)) (a.natAbs * 65536) b.natAbs) else rrangeV

theorem rMul_no1 (a b : Int) (ha : ¬ Fits a) (w : World) : Calls Tryz.prog 9 #[.int .i64 a, .int .i64 b] w fun e w' => e = rrangeV ∧ w = w' := by
  have A := Lib.hid (rfits_no a ha)
  clear ha
  by_cases hb : Fits b
  · have B := Lib.hid (rfits_is b hb)
    clear hb
    go_enter Tryz.func9, Tryz.ntmps9
    go_wp2_with fail
    refine (A.out _).mono ?_
    rintro e w1 ⟨rfl, rfl⟩
    go_wp2_with fail
    refine (B.out _).mono ?_
    rintro e w1 ⟨rfl, rfl⟩
    go_wp2_with fail
    go_ret2
    exact ⟨rfl, rfl⟩
  · have B := Lib.hid (rfits_no b hb)
    clear hb
    go_enter Tryz.func9, Tryz.ntmps9
    go_wp2_with fail
    refine (A.out _).mono ?_
    rintro e w1 ⟨rfl, rfl⟩
    go_wp2_with fail
    refine (B.out _).mono ?_
    rintro e w1 ⟨rfl, rfl⟩
    go_wp2_with fail
    go_ret2
    exact ⟨rfl, rfl⟩
theorem rMul_no2 (a b : Int) (ha : Fits a) (hb : ¬ Fits b) (w : World) : Calls Tryz.prog 9 #[.int .i64 a, .int .i64 b] w fun e w' => e = rrangeV ∧ w = w' := by
  have A := Lib.hid (rfits_is a ha)
  have B := Lib.hid (rfits_no b hb)
  clear ha hb
  go_enter Tryz.func9, Tryz.ntmps9
  go_wp2_with fail
  refine (A.out _).mono ?_
  rintro e w1 ⟨rfl, rfl⟩
  go_wp2_with fail
  refine (B.out _).mono ?_
  rintro e w1 ⟨rfl, rfl⟩
  go_wp2_with fail
  go_ret2
  exact ⟨rfl, rfl⟩
theorem rDiv_no1 (a b : Int) (ha : ¬ Fits a) (w : World) : Calls Tryz.prog 11 #[.int .i64 a, .int .i64 b] w fun e w' => e = rrangeV ∧ w = w' := by
  have A := Lib.hid (rfits_no a ha)
  clear ha
  by_cases hb : Fits b
  · have B := Lib.hid (rfits_is b hb)
    clear hb
    go_enter Tryz.func11, Tryz.ntmps11
    go_wp2_with fail
    refine (A.out _).mono ?_
    rintro e w1 ⟨rfl, rfl⟩
    go_wp2_with fail
    refine (B.out _).mono ?_
    rintro e w1 ⟨rfl, rfl⟩
    go_wp2_with fail
    go_ret2
    exact ⟨rfl, rfl⟩
  · have B := Lib.hid (rfits_no b hb)
    clear hb
    go_enter Tryz.func11, Tryz.ntmps11
    go_wp2_with fail
    refine (A.out _).mono ?_
    rintro e w1 ⟨rfl, rfl⟩
    go_wp2_with fail
    refine (B.out _).mono ?_
    rintro e w1 ⟨rfl, rfl⟩
    go_wp2_with fail
    go_ret2
    exact ⟨rfl, rfl⟩
theorem rDiv_no2 (a b : Int) (ha : Fits a) (hb : ¬ Fits b) (w : World) : Calls Tryz.prog 11 #[.int .i64 a, .int .i64 b] w fun e w' => e = rrangeV ∧ w = w' := by
  have A := Lib.hid (rfits_is a ha)
  have B := Lib.hid (rfits_no b hb)
  clear ha hb
  go_enter Tryz.func11, Tryz.ntmps11
  go_wp2_with fail
  refine (A.out _).mono ?_
  rintro e w1 ⟨rfl, rfl⟩
  go_wp2_with fail
  refine (B.out _).mono ?_
  rintro e w1 ⟨rfl, rfl⟩
  go_wp2_with fail
  go_ret2
  exact ⟨rfl, rfl⟩
theorem rDiv_zero (a : Int) (ha : Fits a) (w : World) : Calls Tryz.prog 11 #[.int .i64 a, .int .i64 0] w fun e w' => e = rrangeV ∧ w = w' := by
  have A := Lib.hid (rfits_is a ha)
  have B := Lib.hid (rfits_is 0 (by unfold Fits; omega))
  clear ha
  go_enter Tryz.func11, Tryz.ntmps11
  go_wp2_with fail
  refine (A.out _).mono ?_
  rintro e w1 ⟨rfl, rfl⟩
  go_wp2_with fail
  refine (B.out _).mono ?_
  rintro e w1 ⟨rfl, rfl⟩
  go_wp2_with fail
  go_ret2
  exact ⟨rfl, rfl⟩

theorem fits_abs {a : Int} (h : Fits a) : a.natAbs < 281474976710656 ∧ -9223372036854775808 < a ∧ a < 9223372036854775808 := by unfold Fits at h; omega

/-- p.Mul(p, q), both new: where the product lies -/
theorem prod_in {a b : Int} {w w1 w2 w3 : World} {p : Nat} {e : Ending} (hp : w.heap.size ≤ p) (B1 : Below w.heap.size w w1) (B2 : Below w1.heap.size w1 w2) (g : GivePost w2 p (decide (a < 0) != decide (b < 0)) (a.natAbs * b.natAbs) e w3) :
    Ib w3 p (prodNeg a b) (a.natAbs * b.natAbs) ∧ Below w.heap.size w w3 := by
  obtain ⟨_, i, u⟩ := g
  refine ⟨by unfold prodNeg; rw [Bool.and_comm]; exact i, u.below (B1.trans (B2.mono B1.size)) hp⟩

theorem rMul_is (a b : Int) (ha : Fits a) (hb : Fits b) (w : World) : Calls Tryz.prog 9 #[.int .i64 a, .int .i64 b] w fun e w' => e = floorV (downZ (prodNeg a b) false (a.natAbs * b.natAbs) 65536) ∧ Below w.heap.size w w' := by
  have A := Lib.hid (rfits_is a ha)
  have B := Lib.hid (rfits_is b hb)
  have NA := Lib.hid (fun w => big19 a (fits_abs ha).2.1 (fits_abs ha).2.2 w)
  have NB := Lib.hid (fun w => big19 b (fits_abs hb).2.1 (fits_abs hb).2.2 w)
  have NC := Lib.hid (fun w => big19 65536 (by omega) (by omega) w)
  have M := Lib.hid (fun w2 p p2 (i1 : Ib w2 p (decide (a < 0)) a.natAbs) (i2 : Ib w2 p2 (decide (b < 0)) b.natAbs) => (show Calls Tryz.prog 20 #[.pointer (some ⟨p, 0, none⟩), .pointer (some ⟨p, 0, none⟩), .pointer (some ⟨p2, 0, none⟩)] w2 (GivePost w2 p (decide (a < 0) != decide (b < 0)) (a.natAbs * b.natAbs)) from by
    obtain ⟨_, _, _, s⟩ := i1.st
    exact bigMul p p p2 _ _ _ _ _ _ _ _ w2 s i1 i2 (fits_abs ha).1 (fits_abs hb).1))
  have F := Lib.hid (fun w4 p p3 (i1 : Ib w4 p (prodNeg a b) (a.natAbs * b.natAbs)) (i3 : Ib w4 p3 (decide ((65536 : Int) < 0)) (65536 : Int).natAbs) (hne : p ≠ p3) => floor_any p p3 (a.natAbs * b.natAbs) 65536 (prodNeg a b) false w4 i1 i3 hne (by omega) (by omega) (.inr rfl) (fun h => by have := fits_prod ha hb h; omega) (fun h => by unfold prodNeg; simp [h]))
  generalize downZ (prodNeg a b) false (a.natAbs * b.natAbs) 65536 = Z at *
  have PI := Lib.hid (fun w1 w2 w3 p e hp B1 B2 g => prod_in (a := a) (b := b) (w := w) (w1 := w1) (w2 := w2) (w3 := w3) (p := p) (e := e) hp B1 B2 g)
  clear ha hb
  go_enter Tryz.func9, Tryz.ntmps9
  go_wp2_with fail
  refine (A.out _).mono ?_
  rintro e w1 ⟨rfl, rfl⟩
  go_wp2_with fail
  refine (B.out _).mono ?_
  rintro e w1 ⟨rfl, rfl⟩
  go_wp2_with fail
  refine (NA.out _).mono ?_
  rintro e w1 ⟨p, rfl, hp, i1, hB1⟩
  replace i1 := Lib.hid i1
  replace hB1 := Lib.hid hB1
  replace hp := Lib.hid hp
  go_wp2_with fail
  refine (NB.out _).mono ?_
  rintro e w2 ⟨p2, rfl, hp2, i2, hB2⟩
  replace i2 := Lib.hid i2
  replace hB2 := Lib.hid hB2
  clear hp2
  go_wp2_with fail
  refine (M.out _ _ _ (i1.out.below hB2.out) i2.out).mono ?_
  rintro e w3 hg
  have P := Lib.hid (PI.out _ _ _ _ _ hp.out hB1.out hB2.out hg)
  obtain ⟨rfl, hg⟩ := hg
  clear hg
  go_wp2_with fail
  refine (NC.out _).mono ?_
  rintro e w4 ⟨p3, rfl, hp3, i3, hB4⟩
  replace i3 := Lib.hid i3
  replace hB4 := Lib.hid hB4
  have hne := Lib.hid (show p ≠ p3 by have := P.out.1.lt; omega)
  have hp3' := Lib.hid (Nat.le_trans P.out.2.size hp3)
  have hB5 := Lib.hid (P.out.2.trans (hB4.out.mono P.out.2.size))
  clear hp3
  go_wp2_with fail
  refine (F.out _ _ _ (P.out.1.below hB4.out) i3.out hne.out).mono ?_
  rintro e w5 ⟨he, hu⟩
  have fin := Lib.hid (below_of_upd2 hB5.out hu hp.out hp3'.out hB5.out.size)
  clear hu
  by_cases hz : Fits Z
  · rw [show floorV Z = .returned (.tuple #[.int .i64 Z, .int .i64 0]) from if_pos hz] at he
    subst he
    go_wp2_with fail
    go_ret2
    exact ⟨(if_pos hz).symm, fin.out⟩
  · rw [show floorV Z = .returned (.tuple #[.int .i64 0, .int .i64 4]) from if_neg hz] at he
    subst he
    go_wp2_with fail
    go_ret2
    exact ⟨(if_neg hz).symm, fin.out⟩

theorem rDiv_is (a b : Int) (ha : Fits a) (hb : Fits b) (hb0 : b ≠ 0) (w : World) : Calls Tryz.prog 11 #[.int .i64 a, .int .i64 b] w fun e w' => e = floorV (downZ (prodNeg a 65536) (decide (b < 0)) (a.natAbs * 65536) b.natAbs) ∧ Below w.heap.size w w' := by
  have A := Lib.hid (rfits_is a ha)
  have B := Lib.hid (rfits_is b hb)
  have NA := Lib.hid (fun w => big19 a (fits_abs ha).2.1 (fits_abs ha).2.2 w)
  have NB := Lib.hid (fun w => big19 65536 (by omega) (by omega) w)
  have NC := Lib.hid (fun w => big19 b (fits_abs hb).2.1 (fits_abs hb).2.2 w)
  have M := Lib.hid (fun w2 p p2 (i1 : Ib w2 p (decide (a < 0)) a.natAbs) (i2 : Ib w2 p2 (decide ((65536 : Int) < 0)) (65536 : Int).natAbs) => (show Calls Tryz.prog 20 #[.pointer (some ⟨p, 0, none⟩), .pointer (some ⟨p, 0, none⟩), .pointer (some ⟨p2, 0, none⟩)] w2 (GivePost w2 p (decide (a < 0) != decide ((65536 : Int) < 0)) (a.natAbs * (65536 : Int).natAbs)) from by
    obtain ⟨_, _, _, s⟩ := i1.st
    exact bigMul p p p2 _ _ _ _ _ _ _ _ w2 s i1 i2 (fits_abs ha).1 (by simp)))
  have F := Lib.hid (fun w4 p p3 (i1 : Ib w4 p (prodNeg a 65536) (a.natAbs * 65536)) (i3 : Ib w4 p3 (decide (b < 0)) b.natAbs) (hne : p ≠ p3) => floor_any p p3 (a.natAbs * 65536) b.natAbs (prodNeg a 65536) (decide (b < 0)) w4 i1 i3 hne (by omega) (by have := (fits_abs hb).1; omega) (.inl (by unfold Fits at ha; omega)) (fun _ => Nat.lt_of_le_of_lt (Nat.div_le_self _ _) (by unfold Fits at ha; omega)) (fun h => by unfold prodNeg; have h' : a.natAbs * (65536 : Int).natAbs = 0 := h; rw [h']; rfl))
  generalize downZ (prodNeg a 65536) (decide (b < 0)) (a.natAbs * 65536) b.natAbs = Z at *
  have PI := Lib.hid (fun w1 w2 w3 p e hp B1 B2 g => prod_in (a := a) (b := 65536) (w := w) (w1 := w1) (w2 := w2) (w3 := w3) (p := p) (e := e) hp B1 B2 g)
  have hb1 : (b == 0) = false := by rw [beq_eq_false_iff_ne]; exact hb0
  clear ha hb hb0
  go_enter Tryz.func11, Tryz.ntmps11
  go_wp2_with fail
  refine (A.out _).mono ?_
  rintro e w1 ⟨rfl, rfl⟩
  go_wp2_with fail
  refine (B.out _).mono ?_
  rintro e w1 ⟨rfl, rfl⟩
  go_wp2_with fail
  refine (NA.out _).mono ?_
  rintro e w1 ⟨p, rfl, hp, i1, hB1⟩
  replace i1 := Lib.hid i1
  replace hB1 := Lib.hid hB1
  replace hp := Lib.hid hp
  go_wp2_with fail
  refine (NB.out _).mono ?_
  rintro e w2 ⟨p2, rfl, hp2, i2, hB2⟩
  replace i2 := Lib.hid i2
  replace hB2 := Lib.hid hB2
  clear hp2
  go_wp2_with fail
  refine (M.out _ _ _ (i1.out.below hB2.out) i2.out).mono ?_
  rintro e w3 hg
  have P := Lib.hid (PI.out _ _ _ _ _ hp.out hB1.out hB2.out hg)
  obtain ⟨rfl, hg⟩ := hg
  clear hg
  go_wp2_with fail
  refine (NC.out _).mono ?_
  rintro e w4 ⟨p3, rfl, hp3, i3, hB4⟩
  replace i3 := Lib.hid i3
  replace hB4 := Lib.hid hB4
  have hne := Lib.hid (show p ≠ p3 by have := P.out.1.lt; omega)
  have hp3' := Lib.hid (Nat.le_trans P.out.2.size hp3)
  have hB5 := Lib.hid (P.out.2.trans (hB4.out.mono P.out.2.size))
  clear hp3
  go_wp2_with fail
  refine (F.out _ _ _ (P.out.1.below hB4.out) i3.out hne.out).mono ?_
  rintro e w5 ⟨he, hu⟩
  have fin := Lib.hid (below_of_upd2 hB5.out hu hp.out hp3'.out hB5.out.size)
  clear hu
  by_cases hz : Fits Z
  · rw [show floorV Z = .returned (.tuple #[.int .i64 Z, .int .i64 0]) from if_pos hz] at he
    subst he
    go_wp2_with fail
    go_ret2
    exact ⟨(if_pos hz).symm, fin.out⟩
  · rw [show floorV Z = .returned (.tuple #[.int .i64 0, .int .i64 4]) from if_neg hz] at he
    subst he
    go_wp2_with fail
    go_ret2
    exact ⟨(if_neg hz).symm, fin.out⟩

theorem rMul (a b : Int) (w : World) : Calls Tryz.prog 9 #[.int .i64 a, .int .i64 b] w fun e w' => e = rmulV a b ∧ Below w.heap.size w w' := by
  unfold rmulV
  by_cases ha : Fits a
  · by_cases hb : Fits b
    · rw [if_pos ⟨ha, hb⟩]; exact rMul_is a b ha hb w
    · rw [if_neg (fun h => hb h.2)]; exact (rMul_no2 a b ha hb w).mono fun e w' h => ⟨h.1, h.2 ▸ Below.refl _ _⟩
  · rw [if_neg (fun h => ha h.1)]; exact (rMul_no1 a b ha w).mono fun e w' h => ⟨h.1, h.2 ▸ Below.refl _ _⟩
theorem rDiv (a b : Int) (w : World) : Calls Tryz.prog 11 #[.int .i64 a, .int .i64 b] w fun e w' => e = rdivV a b ∧ Below w.heap.size w w' := by
  unfold rdivV
  by_cases ha : Fits a
  · by_cases hb : Fits b
    · by_cases h0 : b = 0
      · rw [if_neg (fun h => h.2.2 h0)]; subst h0; exact (rDiv_zero a ha w).mono fun e w' h => ⟨h.1, h.2 ▸ Below.refl _ _⟩
      · rw [if_pos ⟨ha, hb, h0⟩]; exact rDiv_is a b ha hb h0 w
    · rw [if_neg (fun h => hb h.2.1)]; exact (rDiv_no2 a b ha hb w).mono fun e w' h => ⟨h.1, h.2 ▸ Below.refl _ _⟩
  · rw [if_neg (fun h => ha h.1)]; exact (rDiv_no1 a b ha w).mono fun e w' h => ⟨h.1, h.2 ▸ Below.refl _ _⟩

theorem small_yes (x : Int) (h1 : -1000000 ≤ x) (h2 : x ≤ 1000000) (w : World) : Calls Tryz.prog 12 #[.int .i64 x] w fun e w' => e = .returned (.bool true) ∧ w = w' := by
  go_enter Tryz.func12, Tryz.ntmps12
  go_wp2_with fail
  go_ret
  exact ⟨rfl, rfl⟩
theorem small_low (x : Int) (h1 : x < -1000000) (w : World) : Calls Tryz.prog 12 #[.int .i64 x] w fun e w' => e = .returned (.bool false) ∧ w = w' := by
  go_enter Tryz.func12, Tryz.ntmps12
  go_wp2_with fail
  go_ret
  exact ⟨rfl, rfl⟩
theorem small_high (x : Int) (h2 : 1000000 < x) (w : World) : Calls Tryz.prog 12 #[.int .i64 x] w fun e w' => e = .returned (.bool false) ∧ w = w' := by
  have hb : decide (x ≤ 1000000) = false := by rw [decide_eq_false_iff_not]; omega
  go_enter Tryz.func12, Tryz.ntmps12
  go_wp2_with fail
  go_ret
  exact ⟨rfl, rfl⟩
end Go.Proofs.YtbmjghgiipibnaaGreatDoor
