/- WALKS of marchlandbig.Int: Mul, Neg, Set. -/
import Derived.Test.YtbmjghgiipibnaaGreatDoorXI
import Derived.Test.YtbmjghgiipibnaaGreatDoorXT
namespace Go.Proofs.YtbmjghgiipibnaaGreatDoor
open Go.RowKit
set_option linter.unusedVariables false

theorem Nb.heap {w w' : World} {v : Value} {n : Nat} (h : Nb w v n) (hw : w'.heap = w.heap) : Nb w' v n := h.keepC fun g i x hx => by simpa [World.cell?, hw] using hx
theorem MSt.heap {w w' : World} {p : Nat} {b : Bool} {v : Value} (h : MSt w p b v) (hw : w'.heap = w.heap) : MSt w' p b v := by unfold MSt; rw [hw]; exact h
theorem bl_heap {w0 w w' : World} (h : Below w.heap.size w w') (hh : w.heap = w0.heap) (ho : w.os = w0.os) (ht : w.tape = w0.tape) (hp : w.output = w0.output) : Below w0.heap.size w0 w' :=
  ⟨h.os.trans ho, h.tape.trans ht, h.output.trans hp, by rw [← hh]; exact h.size, fun k hk => by rw [← hh] at hk ⊢; exact h.block k hk⟩
theorem MSt.cells {w w' : World} {p : Nat} {b : Bool} {v : Value} (h : MSt w p b v) (hb : Below w.heap.size w w') : w'.cell? ⟨p, 0, none⟩ = some (.bool b) ∧ w'.cell? ⟨p, 1, none⟩ = some v :=
  have h' : MSt w' p b v := (hb.block p h.lt).trans h
  ⟨cell_row h' 0, cell_row h' 1⟩

set_option maxRecDepth 100000 in
set_option maxHeartbeats 1000000 in
theorem bigMul (z p q x y : Nat) (xn yn : Bool) (b : Bool) (a' : Option Addr) (l' c' : Nat) (w : World) (hz : MSt w z b (.slice a' l' c')) (hx : Ib w p xn x) (hy : Ib w q yn y) (bx : x < 281474976710656) (bY : y < 281474976710656) :
    Calls Tryz.prog 20 #[.pointer (some ⟨z, 0, none⟩), .pointer (some ⟨p, 0, none⟩), .pointer (some ⟨q, 0, none⟩)] w (GivePost w z (xn != yn) (x * y)) := by
  obtain ⟨xa, xl, xc, sx, nx, _⟩ := hx
  obtain ⟨ya, yl, yc, sy, ny, _⟩ := hy
  have cx0 : w.cell? ⟨p, 0, none⟩ = some (.bool xn) := cell_row sx 0
  have cx1 : w.cell? ⟨p, 1, none⟩ = some (.slice xa xl xc) := cell_row sx 1
  have cy0 : w.cell? ⟨q, 0, none⟩ = some (.bool yn) := cell_row sy 0
  have cy1 : w.cell? ⟨q, 1, none⟩ = some (.slice ya yl yc) := cell_row sy 1
  have M := Lib.hid (fun (W : World) (h : W.heap = w.heap) => mulB (nx.heap h) (ny.heap h) bx bY)
  have KX := Lib.hid (fun (W : World) (h : Below w.heap.size w W) => sx.cells h)
  have KY := Lib.hid (fun (W : World) (h : Below w.heap.size w W) => sy.cells h)
  have G := Lib.hid (fun (W : World) a l c (h : Below w.heap.size w W) (hn : Nb W (.slice a l c) (x * y)) => give_any z (!(xn == yn)) b a l c (x * y) a' l' c' W ((h.block z hz.lt).trans hz) hn)
  have FIN : Hid (∀ W w2, Below w.heap.size w W → GivePost W z (!(xn == yn)) (x * y) (.returned (.pointer (some ⟨z, 0, none⟩))) w2 → GivePost w z (xn != yn) (x * y) (.returned (.pointer (some ⟨z, 0, none⟩))) w2) := Lib.hid fun W w2 hb hg => ⟨hg.1, hg.2.1, (Upd.of_below hb).trans hg.2.2⟩
  clear hz sx sy nx ny bx bY
  go_enter Tryz.func20, Tryz.ntmps20
  go_wp2_with fail
  refine wp_region_script (S := fun w' => w'.cell? ⟨p, 0, none⟩ = some (.bool xn) ∧ w'.cell? ⟨p, 1, none⟩ = some (.slice xa xl xc) ∧ w'.cell? ⟨q, 0, none⟩ = some (.bool yn) ∧ w'.cell? ⟨q, 1, none⟩ = some (.slice ya yl yc))
    [true, true, true, true, true, true, true, true, true, true, true, true, true, true, true, true, true, true, false] (by kernel_rfl) (by kernel_rfl) (fun _ _ d _ _ h => by cases d <;> exact h) ⟨cx0, cx1, cy0, cy1⟩ ?_
  simp only [List.zip_cons_cons, List.zip_nil_left, List.length_cons, List.length_nil, Nat.zero_add, Nat.reduceAdd, List.drop_succ_cons, List.drop_zero]
  iterate 18 (apply wpScript_take; (· left; refine ⟨by rfl, ?_⟩; intro w hSw; (try dsimp only at hSw); go_simp; first | done | (with_reducible rfl)); simp only [Act.put, List.setIfInBounds_toArray, List.set_cons_zero, List.set_cons_succ])
  refine wpScript_op rfl fun K hK => ?_
  go_simp
  (with_reducible refine (M.out _ ?hW).mono ?_); (case hW => rfl)
  rintro e w1 ⟨a1, l1, c1, rfl, hn1, hb1⟩
  replace hn1 := Lib.hid hn1
  replace hb1 := Lib.hid (bl_heap (w0 := w) hb1 rfl rfl rfl rfl)
  refine hK.out _ _ ⟨(KX.out _ hb1.out).1, (KX.out _ hb1.out).2, (KY.out _ hb1.out).1, (KY.out _ hb1.out).2⟩ ?_
  clear hK K
  refine wpScript_nil ?_
  go_wp2_with fail
  refine (G.out _ _ _ _ hb1.out hn1.out).mono ?_
  rintro e w2 hg
  have fin := Lib.hid (FIN.out _ _ hb1.out (hg.1 ▸ hg))
  obtain ⟨rfl, hg⟩ := hg
  clear hg
  go_wp2_with fail
  go_ret
  exact fin.out
end Go.Proofs.YtbmjghgiipibnaaGreatDoor
