/- WALKS of marchlandbig: Int.Neg, Int.Set, sum, Int.Add, Int.Sub. -/
import Derived.Test.YtbmjghgiipibnaaGreatDoorXL
import Derived.Test.YtbmjghgiipibnaaGreatDoorXK
namespace Go.Proofs.YtbmjghgiipibnaaGreatDoor
open Go.RowKit
set_option linter.unusedVariables false

set_option maxRecDepth 100000 in
theorem bigNeg (z p x : Nat) (xn : Bool) (b : Bool) (a' : Option Addr) (l' c' : Nat) (w : World) (hz : MSt w z b (.slice a' l' c')) (hx : Ib w p xn x) :
    Calls Tryz.prog 39 #[.pointer (some ⟨z, 0, none⟩), .pointer (some ⟨p, 0, none⟩)] w (GivePost w z (!xn) x) := by
  obtain ⟨xa, xl, xc, sx, nx, _⟩ := hx
  have cx0 : w.cell? ⟨p, 0, none⟩ = some (.bool xn) := cell_row sx 0
  have cx1 : w.cell? ⟨p, 1, none⟩ = some (.slice xa xl xc) := cell_row sx 1
  have M := Lib.hid (fun (W : World) (h : W.heap = w.heap) => twin_any (nx.heap h))
  have KX := Lib.hid (fun (W : World) (h : Below w.heap.size w W) => sx.cells h)
  have G := Lib.hid (fun (W : World) a l c (h : Below w.heap.size w W) (hn : Nb W (.slice a l c) x) => give_any z (!xn) b a l c x a' l' c' W ((h.block z hz.lt).trans hz) hn)
  have FIN : Hid (∀ W w2, Below w.heap.size w W → GivePost W z (!xn) x (.returned (.pointer (some ⟨z, 0, none⟩))) w2 → GivePost w z (!xn) x (.returned (.pointer (some ⟨z, 0, none⟩))) w2) := Lib.hid fun W w2 hb hg => ⟨hg.1, hg.2.1, (Upd.of_below hb).trans hg.2.2⟩
  clear hz sx nx
  go_enter Tryz.func39, Tryz.ntmps39
  go_wp2_with fail
  refine wp_region_script (S := fun w' => w'.cell? ⟨p, 0, none⟩ = some (.bool xn) ∧ w'.cell? ⟨p, 1, none⟩ = some (.slice xa xl xc))
    [true, true, true, true, true, true, true, true, true, true, false] (by kernel_rfl) (by kernel_rfl) (fun _ _ d _ _ h => by cases d <;> exact h) ⟨cx0, cx1⟩ ?_
  simp only [List.zip_cons_cons, List.zip_nil_left, List.length_cons, List.length_nil, Nat.zero_add, Nat.reduceAdd, List.drop_succ_cons, List.drop_zero]
  iterate 10 (apply wpScript_take; (· left; refine ⟨by rfl, ?_⟩; intro w hSw; (try dsimp only at hSw); go_simp; first | done | (with_reducible rfl)); simp only [Act.put, List.setIfInBounds_toArray, List.set_cons_zero, List.set_cons_succ])
  refine wpScript_op rfl fun K hK => ?_
  go_simp
  (with_reducible refine (M.out _ ?hW).mono ?_); (case hW => rfl)
  rintro e w1 ⟨a1, l1, c1, rfl, hn1, hb1⟩
  replace hn1 := Lib.hid hn1
  replace hb1 := Lib.hid (bl_heap (w0 := w) hb1 rfl rfl rfl rfl)
  refine hK.out _ _ ⟨(KX.out _ hb1.out).1, (KX.out _ hb1.out).2⟩ ?_
  clear hK K
  refine wpScript_nil ?_
  go_wp2_with fail
  refine (G.out _ _ _ _ hb1.out hn1.out).mono ?_
  rintro e w2 hg
  have fin := Lib.hid (FIN.out _ _ hb1.out (hg.1 ▸ hg))
  obtain ⟨rfl, hg⟩ := hg
  clear hg
  go_wp2_with fail
  go_ret
  exact fin.out

set_option maxRecDepth 100000 in
theorem bigSet (z p x : Nat) (xn : Bool) (b : Bool) (a' : Option Addr) (l' c' : Nat) (w : World) (hz : MSt w z b (.slice a' l' c')) (hx : Ib w p xn x) :
    Calls Tryz.prog 54 #[.pointer (some ⟨z, 0, none⟩), .pointer (some ⟨p, 0, none⟩)] w (GivePost w z xn x) := by
  obtain ⟨xa, xl, xc, sx, nx, _⟩ := hx
  have cx0 : w.cell? ⟨p, 0, none⟩ = some (.bool xn) := cell_row sx 0
  have cx1 : w.cell? ⟨p, 1, none⟩ = some (.slice xa xl xc) := cell_row sx 1
  have M := Lib.hid (fun (W : World) (h : W.heap = w.heap) => twin_any (nx.heap h))
  have KX := Lib.hid (fun (W : World) (h : Below w.heap.size w W) => sx.cells h)
  have G := Lib.hid (fun (W : World) a l c (h : Below w.heap.size w W) (hn : Nb W (.slice a l c) x) => give_any z xn b a l c x a' l' c' W ((h.block z hz.lt).trans hz) hn)
  have FIN : Hid (∀ W w2, Below w.heap.size w W → GivePost W z xn x (.returned (.pointer (some ⟨z, 0, none⟩))) w2 → GivePost w z xn x (.returned (.pointer (some ⟨z, 0, none⟩))) w2) := Lib.hid fun W w2 hb hg => ⟨hg.1, hg.2.1, (Upd.of_below hb).trans hg.2.2⟩
  clear hz sx nx
  go_enter Tryz.func54, Tryz.ntmps54
  go_wp2_with fail
  refine wp_region_script (S := fun w' => w'.cell? ⟨p, 0, none⟩ = some (.bool xn) ∧ w'.cell? ⟨p, 1, none⟩ = some (.slice xa xl xc))
    [true, true, true, true, true, true, true, true, true, false] (by kernel_rfl) (by kernel_rfl) (fun _ _ d _ _ h => by cases d <;> exact h) ⟨cx0, cx1⟩ ?_
  simp only [List.zip_cons_cons, List.zip_nil_left, List.length_cons, List.length_nil, Nat.zero_add, Nat.reduceAdd, List.drop_succ_cons, List.drop_zero]
  iterate 9 (apply wpScript_take; (· left; refine ⟨by rfl, ?_⟩; intro w hSw; (try dsimp only at hSw); go_simp; first | done | (with_reducible rfl)); simp only [Act.put, List.setIfInBounds_toArray, List.set_cons_zero, List.set_cons_succ])
  refine wpScript_op rfl fun K hK => ?_
  go_simp
  (with_reducible refine (M.out _ ?hW).mono ?_); (case hW => rfl)
  rintro e w1 ⟨a1, l1, c1, rfl, hn1, hb1⟩
  replace hn1 := Lib.hid hn1
  replace hb1 := Lib.hid (bl_heap (w0 := w) hb1 rfl rfl rfl rfl)
  refine hK.out _ _ ⟨(KX.out _ hb1.out).1, (KX.out _ hb1.out).2⟩ ?_
  clear hK K
  refine wpScript_nil ?_
  go_wp2_with fail
  refine (G.out _ _ _ _ hb1.out hn1.out).mono ?_
  rintro e w2 hg
  have fin := Lib.hid (FIN.out _ _ hb1.out (hg.1 ▸ hg))
  obtain ⟨rfl, hg⟩ := hg
  clear hg
  go_wp2_with fail
  go_ret
  exact fin.out

def SumPost (w : World) (neg : Bool) (n : Nat) (e : Ending) (w' : World) : Prop := ∃ a l c, e = .returned (.tuple #[.bool neg, .slice a l c]) ∧ Nb w' (.slice a l c) n ∧ Below w.heap.size w w'
theorem sum_same {w : World} {a b : Option Addr} {l c l' c' x y : Nat} {xn : Bool} (hx : Nb w (.slice a l c) x) (hy : Nb w (.slice b l' c') y) (x0 : 0 < x) (bx : x < 18446744073709551616) (y0 : 0 < y) (bY : y < 4294967296) :
    Calls Tryz.prog 91 #[.bool xn, .slice a l c, .bool xn, .slice b l' c'] w (SumPost w xn (x + y)) := by
  have C := Lib.hid (addB hx hy x0 bx y0 bY)
  clear hx hy
  go_enter Tryz.func91, Tryz.ntmps91
  go_wp2_with fail
  refine C.out.mono ?_
  rintro e w1 ⟨a1, l1, c1, rfl, hn, hb⟩
  replace hn := Lib.hid hn
  replace hb := Lib.hid hb
  go_wp2_with fail
  go_ret2
  exact ⟨a1, l1, c1, rfl, hn.out, hb.out⟩
theorem sum_less {w : World} {a b : Option Addr} {l c l' c' x y : Nat} {xn : Bool} (hx : Nb w (.slice a l c) x) (hy : Nb w (.slice b l' c') y) (hlt : x < y) (bY : y < 18446744073709551616) :
    Calls Tryz.prog 91 #[.bool xn, .slice a l c, .bool (!xn), .slice b l' c'] w (SumPost w (!xn) (y - x)) := by
  have C1 := cmp_any hx hy bY
  rw [show CmpPost w x y = fun e w' => e = .returned (.int .i64 (-1)) ∧ Drew w w' by unfold CmpPost; rw [cmpZ_lt hlt]] at C1
  replace C1 := Lib.hid C1
  have C := Lib.hid (fun m => subB (hy.drewN m) (hx.drewN m) hlt bY)
  clear hx hy
  cases xn
  all_goals
    go_enter Tryz.func91, Tryz.ntmps91
    go_wp2_with fail
    refine C1.out.mono ?_
    rintro e w1 ⟨rfl, m, rfl⟩
    go_wp2_with fail
    refine (C.out _).mono ?_
    rintro e w1 ⟨a1, l1, c1, rfl, hn, hb⟩
    replace hn := Lib.hid hn
    replace hb := Lib.hid (bl_undN hb)
    go_wp2_with fail
    go_ret2
    exact ⟨a1, l1, c1, rfl, hn.out, hb.out⟩

set_option maxRecDepth 100000 in
theorem bigAdd (z p q x y n : Nat) (xn yn gn : Bool) (b : Bool) (a' : Option Addr) (l' c' : Nat) (w : World) (hz : MSt w z b (.slice a' l' c')) (hx : Ib w p xn x) (hy : Ib w q yn y)
    (hsum : ∀ (W : World) a l c a2 l2 c2, Nb W (.slice a l c) x → Nb W (.slice a2 l2 c2) y → Calls Tryz.prog 91 #[.bool xn, .slice a l c, .bool yn, .slice a2 l2 c2] W (SumPost W gn n)) :
    Calls Tryz.prog 56 #[.pointer (some ⟨z, 0, none⟩), .pointer (some ⟨p, 0, none⟩), .pointer (some ⟨q, 0, none⟩)] w (GivePost w z gn n) := by
  obtain ⟨xa, xl, xc, sx, nx, _⟩ := hx
  obtain ⟨ya, yl, yc, sy, ny, _⟩ := hy
  have cx0 : w.cell? ⟨p, 0, none⟩ = some (.bool xn) := cell_row sx 0
  have cx1 : w.cell? ⟨p, 1, none⟩ = some (.slice xa xl xc) := cell_row sx 1
  have cy0 : w.cell? ⟨q, 0, none⟩ = some (.bool yn) := cell_row sy 0
  have cy1 : w.cell? ⟨q, 1, none⟩ = some (.slice ya yl yc) := cell_row sy 1
  have M := Lib.hid (fun (W : World) (h : W.heap = w.heap) => hsum W _ _ _ _ _ _ (nx.heap h) (ny.heap h))
  have KX := Lib.hid (fun (W : World) (h : Below w.heap.size w W) => sx.cells h)
  have KY := Lib.hid (fun (W : World) (h : Below w.heap.size w W) => sy.cells h)
  have G := Lib.hid (fun (W : World) a l c (h : Below w.heap.size w W) (hn : Nb W (.slice a l c) n) => give_any z gn b a l c n a' l' c' W ((h.block z hz.lt).trans hz) hn)
  have FIN : Hid (∀ W w2, Below w.heap.size w W → GivePost W z gn n (.returned (.pointer (some ⟨z, 0, none⟩))) w2 → GivePost w z gn n (.returned (.pointer (some ⟨z, 0, none⟩))) w2) := Lib.hid fun W w2 hb hg => ⟨hg.1, hg.2.1, (Upd.of_below hb).trans hg.2.2⟩
  clear hz sx sy nx ny hsum
  go_enter Tryz.func56, Tryz.ntmps56
  go_wp2_with fail
  refine wp_region_script (S := fun w' => w'.cell? ⟨p, 0, none⟩ = some (.bool xn) ∧ w'.cell? ⟨p, 1, none⟩ = some (.slice xa xl xc) ∧ w'.cell? ⟨q, 0, none⟩ = some (.bool yn) ∧ w'.cell? ⟨q, 1, none⟩ = some (.slice ya yl yc))
    [true, true, true, true, true, true, true, true, true, true, true, true, true, true, true, true, true, false, true, true] (by kernel_rfl) (by kernel_rfl) (fun _ _ d _ _ h => by cases d <;> exact h) ⟨cx0, cx1, cy0, cy1⟩ ?_
  simp only [List.zip_cons_cons, List.zip_nil_left, List.length_cons, List.length_nil, Nat.zero_add, Nat.reduceAdd, List.drop_succ_cons, List.drop_zero]
  iterate 17 (apply wpScript_take; (· left; refine ⟨by rfl, ?_⟩; intro w hSw; (try dsimp only at hSw); go_simp; first | done | (with_reducible rfl)); simp only [Act.put, List.setIfInBounds_toArray, List.set_cons_zero, List.set_cons_succ])
  refine wpScript_op rfl fun K hK => ?_
  go_simp
  (with_reducible refine (M.out _ ?hW).mono ?_); (case hW => rfl)
  rintro e w1 ⟨a1, l1, c1, rfl, hn1, hb1⟩
  replace hn1 := Lib.hid hn1
  replace hb1 := Lib.hid (bl_heap (w0 := w) hb1 rfl rfl rfl rfl)
  refine hK.out _ _ ⟨(KX.out _ hb1.out).1, (KX.out _ hb1.out).2, (KY.out _ hb1.out).1, (KY.out _ hb1.out).2⟩ ?_
  clear hK K
  iterate 2 (apply wpScript_take; (· left; refine ⟨by rfl, ?_⟩; intro w hSw; (try dsimp only at hSw); go_simp; first | done | (with_reducible rfl)); simp only [Act.put, List.setIfInBounds_toArray, List.set_cons_zero, List.set_cons_succ])
  refine wpScript_nil ?_
  go_wp2_with fail
  refine (G.out _ _ _ _ hb1.out hn1.out).mono ?_
  rintro e w2 hg
  have fin := Lib.hid (FIN.out _ _ hb1.out (hg.1 ▸ hg))
  obtain ⟨rfl, hg⟩ := hg
  clear hg
  go_wp2_with fail
  go_ret
  exact fin.out

set_option maxRecDepth 100000 in
theorem bigSub (z p q x y n : Nat) (xn yn gn : Bool) (b : Bool) (a' : Option Addr) (l' c' : Nat) (w : World) (hz : MSt w z b (.slice a' l' c')) (hx : Ib w p xn x) (hy : Ib w q yn y)
    (hsum : ∀ (W : World) a l c a2 l2 c2, Nb W (.slice a l c) x → Nb W (.slice a2 l2 c2) y → Calls Tryz.prog 91 #[.bool xn, .slice a l c, .bool (!yn), .slice a2 l2 c2] W (SumPost W gn n)) :
    Calls Tryz.prog 57 #[.pointer (some ⟨z, 0, none⟩), .pointer (some ⟨p, 0, none⟩), .pointer (some ⟨q, 0, none⟩)] w (GivePost w z gn n) := by
  obtain ⟨xa, xl, xc, sx, nx, _⟩ := hx
  obtain ⟨ya, yl, yc, sy, ny, _⟩ := hy
  have cx0 : w.cell? ⟨p, 0, none⟩ = some (.bool xn) := cell_row sx 0
  have cx1 : w.cell? ⟨p, 1, none⟩ = some (.slice xa xl xc) := cell_row sx 1
  have cy0 : w.cell? ⟨q, 0, none⟩ = some (.bool yn) := cell_row sy 0
  have cy1 : w.cell? ⟨q, 1, none⟩ = some (.slice ya yl yc) := cell_row sy 1
  have M := Lib.hid (fun (W : World) (h : W.heap = w.heap) => hsum W _ _ _ _ _ _ (nx.heap h) (ny.heap h))
  have KX := Lib.hid (fun (W : World) (h : Below w.heap.size w W) => sx.cells h)
  have KY := Lib.hid (fun (W : World) (h : Below w.heap.size w W) => sy.cells h)
  have G := Lib.hid (fun (W : World) a l c (h : Below w.heap.size w W) (hn : Nb W (.slice a l c) n) => give_any z gn b a l c n a' l' c' W ((h.block z hz.lt).trans hz) hn)
  have FIN : Hid (∀ W w2, Below w.heap.size w W → GivePost W z gn n (.returned (.pointer (some ⟨z, 0, none⟩))) w2 → GivePost w z gn n (.returned (.pointer (some ⟨z, 0, none⟩))) w2) := Lib.hid fun W w2 hb hg => ⟨hg.1, hg.2.1, (Upd.of_below hb).trans hg.2.2⟩
  clear hz sx sy nx ny hsum
  go_enter Tryz.func57, Tryz.ntmps57
  go_wp2_with fail
  refine wp_region_script (S := fun w' => w'.cell? ⟨p, 0, none⟩ = some (.bool xn) ∧ w'.cell? ⟨p, 1, none⟩ = some (.slice xa xl xc) ∧ w'.cell? ⟨q, 0, none⟩ = some (.bool yn) ∧ w'.cell? ⟨q, 1, none⟩ = some (.slice ya yl yc))
    [true, true, true, true, true, true, true, true, true, true, true, true, true, true, true, true, true, true, false, true, true] (by kernel_rfl) (by kernel_rfl) (fun _ _ d _ _ h => by cases d <;> exact h) ⟨cx0, cx1, cy0, cy1⟩ ?_
  simp only [List.zip_cons_cons, List.zip_nil_left, List.length_cons, List.length_nil, Nat.zero_add, Nat.reduceAdd, List.drop_succ_cons, List.drop_zero]
  iterate 18 (apply wpScript_take; (· left; refine ⟨by rfl, ?_⟩; intro w hSw; (try dsimp only at hSw); go_simp; first | done | (with_reducible rfl)); simp only [Act.put, List.setIfInBounds_toArray, List.set_cons_zero, List.set_cons_succ])
  refine wpScript_op rfl fun K hK => ?_
  go_simp
  (with_reducible refine (M.out _ ?hW).mono ?_); (case hW => rfl)
  rintro e w1 ⟨a1, l1, c1, rfl, hn1, hb1⟩
  replace hn1 := Lib.hid hn1
  replace hb1 := Lib.hid (bl_heap (w0 := w) hb1 rfl rfl rfl rfl)
  refine hK.out _ _ ⟨(KX.out _ hb1.out).1, (KX.out _ hb1.out).2, (KY.out _ hb1.out).1, (KY.out _ hb1.out).2⟩ ?_
  clear hK K
  iterate 2 (apply wpScript_take; (· left; refine ⟨by rfl, ?_⟩; intro w hSw; (try dsimp only at hSw); go_simp; first | done | (with_reducible rfl)); simp only [Act.put, List.setIfInBounds_toArray, List.set_cons_zero, List.set_cons_succ])
  refine wpScript_nil ?_
  go_wp2_with fail
  refine (G.out _ _ _ _ hb1.out hn1.out).mono ?_
  rintro e w2 hg
  have fin := Lib.hid (FIN.out _ _ hb1.out (hg.1 ▸ hg))
  obtain ⟨rfl, hg⟩ := hg
  clear hg
  go_wp2_with fail
  go_ret
  exact fin.out

end Go.Proofs.YtbmjghgiipibnaaGreatDoor
