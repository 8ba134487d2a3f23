/- WALK of marchlandbig: Int.QuoRem. -/
import Derived.Test.YtbmjghgiipibnaaGreatDoorXN
namespace Go.Proofs.YtbmjghgiipibnaaGreatDoor
open Go.RowKit
set_option linter.unusedVariables false

def QRB (w : World) (z r : Nat) (xn yn : Bool) (x y : Nat) (e : Ending) (w' : World) : Prop :=
  e = .returned (.tuple #[.pointer (some ⟨z, 0, none⟩), .pointer (some ⟨r, 0, none⟩)]) ∧ Ib w' z ((!(xn == yn)) && decide (0 < x / y)) (x / y) ∧ Ib w' r (xn && decide (0 < x % y)) (x % y) ∧ Upd2 z r w w'
theorem Upd2.of1 {z r : Nat} {w w' : World} (h : Upd z w w') : Upd2 z r w w' := ⟨h.os, h.tape, h.output, h.size, fun k hk hz _ => h.block k hk hz⟩
theorem Upd2.of2 {z r : Nat} {w w' : World} (h : Upd r w w') : Upd2 z r w w' := ⟨h.os, h.tape, h.output, h.size, fun k hk _ hr => h.block k hk hr⟩
theorem Upd2.trans {z r : Nat} {a b c : World} (h : Upd2 z r a b) (g : Upd2 z r b c) : Upd2 z r a c :=
  ⟨g.os.trans h.os, g.tape.trans h.tape, g.output.trans h.output, Nat.le_trans h.size g.size, fun k hk hz hr => (g.block k (Nat.lt_of_lt_of_le hk h.size) hz hr).trans (h.block k hk hz hr)⟩
theorem Ib.st {w : World} {p n : Nat} {b : Bool} (h : Ib w p b n) : ∃ a l c, MSt w p b (.slice a l c) := by obtain ⟨a, l, c, hs, _⟩ := h; exact ⟨a, l, c, hs⟩

set_option maxRecDepth 100000 in
set_option maxHeartbeats 400000 in
theorem bigQuoRem (z r p q x y : Nat) (xn yn : Bool) (b b2 : Bool) (a' a2' : Option Addr) (l' c' l2' c2' : Nat) (w : World) (hz : MSt w z b (.slice a' l' c')) (hr : MSt w r b2 (.slice a2' l2' c2')) (hzr : r ≠ z) (hx : Ib w p xn x) (hy : Ib w q yn y)
    (y0 : 0 < y) (bY : y < 18446744073709551616) (hxy : x < 18446744073709551616 ∨ y = 65536) :
    Calls Tryz.prog 55 #[.pointer (some ⟨z, 0, none⟩), .pointer (some ⟨p, 0, none⟩), .pointer (some ⟨q, 0, none⟩), .pointer (some ⟨r, 0, none⟩)] w (QRB w z r xn yn x y) := by
  obtain ⟨xa, xl, xc, sx, nx, _⟩ := hx
  obtain ⟨ya, yl, yc, sy, ny, _⟩ := hy
  have cx0 : w.cell? ⟨p, 0, none⟩ = some (.bool xn) := cell_row sx 0
  have cx1 : w.cell? ⟨p, 1, none⟩ = some (.slice xa xl xc) := cell_row sx 1
  have cy0 : w.cell? ⟨q, 0, none⟩ = some (.bool yn) := cell_row sy 0
  have cy1 : w.cell? ⟨q, 1, none⟩ = some (.slice ya yl yc) := cell_row sy 1
  have M := Lib.hid (fun (W : World) (h : W.heap = w.heap) => divB (nx.heap h) (ny.heap h) y0 bY hxy)
  have KX := Lib.hid (fun (W : World) (h : Below w.heap.size w W) => sx.cells h)
  have KY := Lib.hid (fun (W : World) (h : Below w.heap.size w W) => sy.cells h)
  have SZ := Lib.hid (fun (W : World) (h : Below w.heap.size w W) => (show MSt W z b (.slice a' l' c') from (h.block z hz.lt).trans hz))
  have SR := Lib.hid (fun (W W2 : World) (h : Below w.heap.size w W) (hu : Upd z W W2) => (show MSt W2 r b2 (.slice a2' l2' c2') from (hu.block r (Nat.lt_of_lt_of_le hr.lt h.size) hzr).trans ((h.block r hr.lt).trans hr)))
  have G := Lib.hid (fun (W : World) a l c (h : MSt W z b (.slice a' l' c')) (hn : Nb W (.slice a l c) (x / y)) => give_any z (!(xn == yn)) b a l c (x / y) a' l' c' W h hn)
  have G2 := Lib.hid (fun (W : World) a l c (h : MSt W r b2 (.slice a2' l2' c2')) (hn : Nb W (.slice a l c) (x % y)) => give_any r xn b2 a l c (x % y) a2' l2' c2' W h hn)
  have HZR := Lib.hid hzr
  clear hz hr sx sy nx ny bY y0 hxy hzr
  go_enter Tryz.func55, Tryz.ntmps55
  go_wp2_with fail
  go_quiet (fail)
  go_wp2_with fail
  go_region_held3 (fun w' => w'.cell? ⟨p, 1, none⟩ = some (.slice xa xl xc) ∧ w'.cell? ⟨q, 1, none⟩ = some (.slice ya yl yc)) (first | exact ⟨cx1, cy1⟩ | exact ⟨ex1, ey1⟩)
    (first | (go_at_call 90; (with_reducible refine (M.out _ ?hW).mono ?_); (case hW => rfl); rintro e w1 ⟨a1, l1, c1, a2, l2, c2, rfl, hn1, hn2, hb1⟩; replace hn1 := Lib.hid hn1; replace hn2 := Lib.hid hn2; replace hb1 := Lib.hid (bl_heap (w0 := w) hb1 rfl rfl rfl rfl); have ex1 := (KX.out _ hb1.out).2; have ey1 := (KY.out _ hb1.out).2))
  go_wp2_with fail
  refine (G.out _ _ _ _ (SZ.out _ hb1.out) hn1.out).mono ?_
  rintro e w2 ⟨rfl, hi, hu⟩
  replace hi := Lib.hid hi
  replace hu := Lib.hid hu
  go_wp2_with fail
  refine (G2.out _ _ _ _ (SR.out _ _ hb1.out hu.out) (hn2.out.upd hu.out (SZ.out _ hb1.out))).mono ?_
  rintro e w3 ⟨rfl, hi2, hu2⟩
  replace hi2 := Lib.hid hi2
  replace hu2 := Lib.hid hu2
  go_wp2_with fail
  go_ret2
  exact ⟨rfl, hi.out.keep (v := .bool true) hu2.out (SR.out _ _ hb1.out hu.out) (Ne.symm HZR.out), hi2.out, ((Upd2.of_below hb1.out).trans (Upd2.of1 hu.out)).trans (Upd2.of2 hu2.out)⟩
end Go.Proofs.YtbmjghgiipibnaaGreatDoor
