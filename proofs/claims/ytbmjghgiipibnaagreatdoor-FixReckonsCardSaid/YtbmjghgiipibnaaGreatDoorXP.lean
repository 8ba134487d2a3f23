/- WALK of marchlandbig: Int.DivMod by a number above nought. -/
import Derived.Test.YtbmjghgiipibnaaGreatDoorXO
namespace Go.Proofs.YtbmjghgiipibnaaGreatDoor
open Go.RowKit
set_option linter.unusedVariables false

theorem Nb.upd2 {z r : Nat} {w w' : World} {v : Value} {n : Nat} {b b2 : Bool} {a a2 : Option Addr} {l c l2 c2 : Nat} (h : Nb w v n) (hu : Upd2 z r w w') (hz : MSt w z b (.slice a l c)) (hr : MSt w r b2 (.slice a2 l2 c2)) : Nb w' v n :=
  h.keepC fun g i x hx => by
    have hg := lt_of_cell hx
    have hne : g ≠ z := by
      rintro rfl
      unfold MSt at hz
      rcases i with _ | _ | i <;> simp [World.cell?, hz] at hx
    have hne2 : g ≠ r := by
      rintro rfl
      unfold MSt at hr
      rcases i with _ | _ | i <;> simp [World.cell?, hr] at hx
    exact (World.cell?_of_block (w := w) (hu.block g hg hne hne2)).trans hx
theorem Ib.keep2 {z r p n : Nat} {w w' : World} {b b' b2 : Bool} {a a2 : Option Addr} {l c l2 c2 : Nat} (h : Ib w p b n) (hu : Upd2 z r w w') (hz : MSt w z b' (.slice a l c)) (hr : MSt w r b2 (.slice a2 l2 c2)) (hp : p ≠ z) (hp2 : p ≠ r) : Ib w' p b n := by
  obtain ⟨a, l, c, hs, hn, h0⟩ := h
  exact ⟨a, l, c, (hu.block p hs.lt hp hp2).trans hs, hn.upd2 hu hz hr, h0⟩
theorem MSt.below {w w' : World} {p : Nat} {b : Bool} {v : Value} (h : MSt w p b v) (hb : Below w.heap.size w w') : MSt w' p b v := (hb.block p h.lt).trans h
theorem Upd2.lift {z r : Nat} {w a b : World} (hb : Below w.heap.size w a) (h : Upd2 z r a b) : Upd2 z r w b := (Upd2.of_below hb).trans h
theorem Ib.neg {w : World} {p n : Nat} {b : Bool} (h : Ib w p b n) : w.cell? ⟨p, 0, none⟩ = some (.bool b) := by obtain ⟨a, l, c, hs, _⟩ := h; exact cell_row hs 0

def DMB (w : World) (z r : Nat) (zn : Bool) (zq : Nat) (e : Ending) (w' : World) : Prop :=
  e = .returned (.tuple #[.pointer (some ⟨z, 0, none⟩), .pointer (some ⟨r, 0, none⟩)]) ∧ Ib w' z zn zq ∧ Upd2 z r w w'

/-- the first half: the divisor kept, the quotient and the rest -/
theorem dm_first {z r q p x y : Nat} {xn : Bool} {w w2 w3 : World} {b b2 : Bool} {a' a2' : Option Addr} {l' c' l2' c2' : Nat} (hz : MSt w z b (.slice a' l' c')) (hr : MSt w r b2 (.slice a2' l2' c2'))
    (hg : GivePost (w.alloc (.cells #[.bool false, .slice none 0 0] 60)) w.heap.size false y (.returned (.pointer (some ⟨w.heap.size, 0, none⟩))) w2) {e : Ending} (h : QRB w2 z r xn false x y e w3) :
    Ib w3 w.heap.size false y ∧ Ib w3 z (xn && decide (0 < x / y)) (x / y) ∧ Ib w3 r (xn && decide (0 < x % y)) (x % y) ∧ Upd2 z r w w3 ∧ w.heap.size < w3.heap.size := by
  obtain ⟨_, hd, hu⟩ := hg
  have hB : Below w.heap.size w w2 := hu.below (bl_one _ _) (Nat.le_refl _)
  obtain ⟨_, h1, h2, h3⟩ := h
  have hd' : Ib w3 w.heap.size false y := by
    have := hd.keep2 h3 (hz.below hB) (hr.below hB) (Ne.symm (Nat.ne_of_lt hz.lt)) (Ne.symm (Nat.ne_of_lt hr.lt))
    simpa using this
  refine ⟨hd', by simpa using h1, h2, h3.lift hB, hd'.lt⟩

set_option maxRecDepth 100000 in
theorem divmod_plain (z r p q x y : Nat) (xn : Bool) (b b2 : Bool) (a' a2' : Option Addr) (l' c' l2' c2' : Nat) (w : World) (hz : MSt w z b (.slice a' l' c')) (hr : MSt w r b2 (.slice a2' l2' c2')) (hzr : r ≠ z) (hx : Ib w p xn x) (hy : Ib w q false y)
    (y0 : 0 < y) (bY : y < 18446744073709551616) (hxy : x < 18446744073709551616 ∨ y = 65536) (hno : (xn && decide (0 < x % y)) = false) :
    Calls Tryz.prog 40 #[.pointer (some ⟨z, 0, none⟩), .pointer (some ⟨p, 0, none⟩), .pointer (some ⟨q, 0, none⟩), .pointer (some ⟨r, 0, none⟩)] w (DMB w z r (xn && decide (0 < x / y)) (x / y)) := by
  have C1 := Lib.hid (bigSet w.heap.size q y false false none 0 0 _ (mst_new w) (hy.below (bl_one _ _)))
  have C2 := Lib.hid (fun w2 (hB : Below w.heap.size w w2) => bigQuoRem z r p q x y xn false b b2 a' a2' l' c' l2' c2' w2 (hz.below hB) (hr.below hB) hzr (hx.below hB) (hy.below hB) y0 bY hxy)
  have F := Lib.hid (fun w2 w3 e hg h => dm_first (q := q) (p := p) (x := x) (y := y) (xn := xn) (w := w) (w2 := w2) (w3 := w3) hz hr hg (e := e) h)
  have NO := Lib.hid hno
  clear hz hr hx hy hno
  go_enter Tryz.func40, Tryz.ntmps40
  go_wp2_with fail
  refine C1.out.mono ?_
  rintro e w2 hg
  have hg' := Lib.hid hg
  obtain ⟨rfl, hg⟩ := hg
  clear hg
  have hB := Lib.hid (hg'.out.2.2.below (w0 := w) (bl_one _ _) (Nat.le_refl _))
  go_wp2_with fail
  refine (C2.out _ hB.out).mono ?_
  rintro e w3 h
  have hF := Lib.hid (F.out _ _ _ hg'.out h)
  have cr : w3.cell? ⟨r, 0, none⟩ = some (.bool false) := by have := hF.out.2.2.1.neg; rwa [NO.out] at this
  obtain ⟨rfl, h⟩ := h
  clear h
  go_wp2_with fail
  go_ret2
  exact ⟨rfl, hF.out.2.1, hF.out.2.2.2.1⟩

set_option maxRecDepth 100000 in
theorem divmod_down (z r p q x y : Nat) (b b2 : Bool) (a' a2' : Option Addr) (l' c' l2' c2' : Nat) (w : World) (hz : MSt w z b (.slice a' l' c')) (hr : MSt w r b2 (.slice a2' l2' c2')) (hzr : r ≠ z) (hx : Ib w p true x) (hy : Ib w q false y)
    (y0 : 0 < y) (bY : y < 18446744073709551616) (hxy : x < 18446744073709551616 ∨ y = 65536) (hq : x / y < 18446744073709551616) (hm : 0 < x % y) :
    Calls Tryz.prog 40 #[.pointer (some ⟨z, 0, none⟩), .pointer (some ⟨p, 0, none⟩), .pointer (some ⟨q, 0, none⟩), .pointer (some ⟨r, 0, none⟩)] w (DMB w z r true (x / y + 1)) := by
  have C1 := Lib.hid (bigSet w.heap.size q y false false none 0 0 _ (mst_new w) (hy.below (bl_one _ _)))
  have C2 := Lib.hid (fun w2 (hB : Below w.heap.size w w2) => bigQuoRem z r p q x y true false b b2 a' a2' l' c' l2' c2' w2 (hz.below hB) (hr.below hB) hzr (hx.below hB) (hy.below hB) y0 bY hxy)
  have F := Lib.hid (fun w2 w3 e hg h => dm_first (q := q) (p := p) (x := x) (y := y) (xn := true) (w := w) (w2 := w2) (w3 := w3) hz hr hg (e := e) h)
  have C3 := Lib.hid (fun w => newB 1 (by omega) (by omega) w)
  have NZ := Lib.hid (And.intro hzr (And.intro hz.lt hr.lt))
  have C4 := Lib.hid (show ∀ w4 p1, Ib w4 z (true && decide (0 < x / y)) (x / y) → Ib w4 p1 false 1 → Calls Tryz.prog 57 #[.pointer (some ⟨z, 0, none⟩), .pointer (some ⟨z, 0, none⟩), .pointer (some ⟨p1, 0, none⟩)] w4 (GivePost w4 z true (x / y + 1)) from fun w4 p1 h1 h2 => by
    obtain ⟨a, l, c, hs⟩ := h1.st
    refine bigSub z z p1 (x / y) 1 (x / y + 1) _ false true _ _ _ _ w4 hs h1 h2 fun W a l c a2 l2 c2 n1 n2 => ?_
    by_cases h0 : 0 < x / y
    · rw [show (true && decide (0 < x / y)) = true by simp [h0]]
      exact sum_same n1 n2 h0 hq (by omega) (by omega)
    · rw [show (true && decide (0 < x / y)) = false by simp [h0]]
      have e : x / y = 0 := Nat.le_zero.1 (Nat.not_lt.1 h0)
      rw [e] at n1 ⊢
      have := sum_less (xn := false) n1 n2 (show 0 < 1 by omega) (show 1 < 18446744073709551616 by omega)
      exact this)
  have C5 := Lib.hid (show ∀ w5, Ib w5 r true (x % y) → Ib w5 w.heap.size false y → Calls Tryz.prog 56 #[.pointer (some ⟨r, 0, none⟩), .pointer (some ⟨r, 0, none⟩), .pointer (some ⟨w.heap.size, 0, none⟩)] w5 (GivePost w5 r false (y - x % y)) from fun w5 h1 h2 => by
    obtain ⟨a, l, c, hs⟩ := h1.st
    exact bigAdd r r w.heap.size (x % y) y (y - x % y) true false false _ _ _ _ w5 hs h1 h2 fun W a l c a2 l2 c2 n1 n2 => sum_less n1 n2 (Nat.mod_lt _ y0) bY)
  have HM := Lib.hid hm
  clear hz hr hx hy hm hzr
  go_enter Tryz.func40, Tryz.ntmps40
  go_wp2_with fail
  refine C1.out.mono ?_
  rintro e w2 hg
  have hg' := Lib.hid hg
  obtain ⟨rfl, hg⟩ := hg
  clear hg
  have hB := Lib.hid (hg'.out.2.2.below (w0 := w) (bl_one _ _) (Nat.le_refl _))
  go_wp2_with fail
  refine (C2.out _ hB.out).mono ?_
  rintro e w3 h
  have hF := Lib.hid (F.out _ _ _ hg'.out h)
  have im := Lib.hid (show Ib w3 r true (x % y) by have := hF.out.2.2.1; rwa [show (true && decide (0 < x % y)) = true by simp [HM.out]] at this)
  have cr : w3.cell? ⟨r, 0, none⟩ = some (.bool true) := im.out.neg
  have cd : w3.cell? ⟨w.heap.size, 0, none⟩ = some (.bool false) := hF.out.1.neg
  obtain ⟨rfl, h⟩ := h
  clear h
  go_wp2_with fail
  refine (C3.out _).mono ?_
  rintro e w4 ⟨p1, rfl, hp1, i1, hB4⟩
  replace i1 := Lib.hid i1
  replace hB4 := Lib.hid hB4
  clear hp1 cr cd
  go_wp2_with fail
  refine (C4.out _ _ (hF.out.2.1.below hB4.out) i1.out).mono ?_
  rintro e w5 ⟨rfl, iz, uz⟩
  have st4 := (hF.out.2.1.below hB4.out).st
  obtain ⟨sa, sl, sc, st4⟩ := st4
  have ir := Lib.hid ((im.out.below hB4.out).keep (v := .bool true) uz st4 NZ.out.1)
  have id := Lib.hid ((hF.out.1.below hB4.out).keep (v := .bool true) uz st4 (Ne.symm (Nat.ne_of_lt NZ.out.2.1)))
  replace iz := Lib.hid iz
  replace uz := Lib.hid uz
  clear st4
  go_wp2_with fail
  refine (C5.out _ ir.out id.out).mono ?_
  rintro e w6 ⟨rfl, _, ur⟩
  obtain ⟨ra, rl, rc, sr⟩ := ir.out.st
  have iz6 := Lib.hid (iz.out.keep (v := .bool true) ur sr (Ne.symm NZ.out.1))
  have fin := Lib.hid (((hF.out.2.2.2.1.trans (Upd2.of_below hB4.out)).trans (Upd2.of1 uz.out)).trans (Upd2.of2 ur))
  clear ur sr
  go_wp2_with fail
  go_ret2
  exact ⟨rfl, by have := iz6.out; simpa using this, fin.out⟩
end Go.Proofs.YtbmjghgiipibnaaGreatDoor
