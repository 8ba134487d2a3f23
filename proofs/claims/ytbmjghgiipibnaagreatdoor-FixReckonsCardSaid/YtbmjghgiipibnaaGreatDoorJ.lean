/- WALKS of math/big's Int: mul, Mul. -/
import Derived.Test.YtbmjghgiipibnaaGreatDoorI
import Derived.Deep.RegionWith
import Derived.LaidEqlPtr
import Derived.StillTailTactics
import Derived.BigRegion
import Derived.Deep.DeepCutAuto
namespace Go.Proofs.YtbmjghgiipibnaaGreatDoor
open Go.RowKit
set_option linter.unusedVariables false

theorem size38 : (Tryz.prog.info? 38).map (·.size) = some 2 := by kernel_rfl
theorem ptr_ne {w : World} {p q : Nat} {a b : Bool} {u v : Value} (hp : St w p a u) (hq : St w q b v) (h : p ≠ q) :
    (binOp .eql 34 (.pointer (some ⟨p, 0, none⟩)) (.pointer (some ⟨q, 0, none⟩))).run Tryz.prog w = .ok (.bool false) w := by
  obtain ⟨j, hj, hs⟩ := Option.map_eq_some_iff.1 size38
  exact run_eql_ptr_other w (te := 38) (j := j) Tryz.underlying34 hj (by omega) (by intro e; cases e; exact h rfl) hp hq

/-- all blocks but one are as they were -/
structure Upd (z : Nat) (w w' : World) : Prop where
  os : w'.os = w.os
  tape : w'.tape = w.tape
  output : w'.output = w.output
  size : w.heap.size ≤ w'.heap.size
  block : ∀ k, k < w.heap.size → k ≠ z → w'.heap[k]? = w.heap[k]?

theorem wpStill_skip {P : Program} {ops : Array Oper} {w : World} {Q : Act → Prop} {a : Act} {o : Oper} {rest : List Oper}
    (hg : Region.wanted o (yielded ops a.tmps) = false) (h : wpStill P ops w Q rest (a.put o.dst undef)) : wpStill P ops w Q (o :: rest) a := by
  unfold wpStill; rw [if_neg (by simp [hg])]; exact h
theorem wpStill_want {P : Program} {ops : Array Oper} {w : World} {Q : Act → Prop} {a : Act} {o : Oper} {rest : List Oper}
    (hg : Region.wanted o (yielded ops a.tmps) = true) (h : ∀ K : Act → Prop, (∀ a, wpStill P ops w Q rest a → K a) → o.still P a w K) : wpStill P ops w Q (o :: rest) a := by
  unfold wpStill; rw [if_pos hg]; exact h _ (fun _ h => h)
theorem NatN.slice {w : World} {g : Nat} {v : Value} {n : Nat} (h : NatN w g v n) : ∃ a l c, v = .slice a l c := by
  rcases h with ⟨_, h⟩ | ⟨_, _, h, _⟩ <;> exact ⟨_, _, _, h⟩
theorem NatM.slice {w : World} {g : Nat} {v : Value} {n : Nat} (h : NatM w g v n) : ∃ a l c, v = .slice a l c := by
  rcases h with ⟨_, h⟩ | ⟨_, _, h, _⟩ | ⟨_, _, _, _, _, _, h, _⟩ <;> exact ⟨_, _, _, h⟩
theorem NatQ.slice {w : World} {g : Nat} {v : Value} {n : Nat} (h : NatQ w g v n) : ∃ a l c, v = .slice a l c := by
  rcases h with ⟨_, h⟩ | ⟨_, h, _⟩ | ⟨_, _, h, _⟩ | ⟨_, _, h, _⟩ | ⟨_, _, _, _, _, _, h, _⟩ <;> exact ⟨_, _, _, h⟩

def MulPostS (w : World) (n : Nat) (e : Ending) (w' : World) : Prop :=
  ∃ a l c g, e = .returned (.slice a l c) ∧ NatM w' g (.slice a l c) n ∧ w.heap.size ≤ g ∧ Below w.heap.size w w'
theorem MulPost.s {w : World} {n : Nat} {e : Ending} {w' : World} (h : MulPost w n e w') : MulPostS w n e w' := by
  obtain ⟨v, g, he, hv, hg, hb⟩ := h
  obtain ⟨a, l, c, rfl⟩ := hv.slice
  exact ⟨a, l, c, g, he, hv, hg, hb⟩

theorem st_set1 {w : World} {p : Nat} {b : Bool} {u : Value} (h : St w p b u) (v : Value) : St (w.setCell ⟨p, 1, none⟩ v) p b v := by
  unfold St at *
  show (w.heap.modify p _)[p]? = _
  rw [Array.getElem?_modify, if_pos rfl, h]
  rfl
theorem st_set0 {w : World} {p : Nat} {b : Bool} {u : Value} (h : St w p b u) (c : Bool) : St (w.setCell ⟨p, 0, none⟩ (.bool c)) p c u := by
  unfold St at *
  show (w.heap.modify p _)[p]? = _
  rw [Array.getElem?_modify, if_pos rfl, h]
  rfl
theorem bl_undrew {B : Nat} {w w' : World} (h : Below B w.drew w') : Below B w w' := ⟨h.os, h.tape, h.output, h.size, h.block⟩
theorem Upd.of_below {z : Nat} {w w' : World} (h : Below w.heap.size w w') : Upd z w w' := ⟨h.os, h.tape, h.output, h.size, fun k hk _ => h.block k hk⟩
theorem Upd.setCell {z : Nat} {w w' : World} (h : Upd z w w') (i : Nat) (v : Value) : Upd z w (w'.setCell ⟨z, i, none⟩ v) :=
  ⟨h.os, h.tape, h.output, by simpa [World.setCell] using h.size, fun k hk hz => (Below.heap_setCell _ _ _ _ hz).trans (h.block k hk hz)⟩
theorem Upd.drewN {z : Nat} {w w' : World} (h : Upd z w w') (n : Nat) : Upd z w (w'.drewN n) := ⟨h.os, h.tape, h.output, h.size, h.block⟩
theorem Upd.drew {z : Nat} {w w' : World} (h : Upd z w w') : Upd z w w'.drew := ⟨h.os, h.tape, h.output, h.size, h.block⟩
theorem NatM.len {w : World} {g n : Nat} {a : Option Addr} {l c : Nat} (h : NatM w g (.slice a l c) n) : (0 < n → 0 < l) ∧ (n = 0 → l = 0) := by
  rcases h with ⟨rfl, h⟩ | ⟨h0, _, h, _⟩ | ⟨lo, hi, rfl, h0, _, _, h, _⟩
  · cases h; omega
  · cases h; omega
  · cases h; omega

/-- behind 'z.abs = z.abs.mul(..)' -/
def CutMul (w : World) (pz n : Nat) (wx : World) : Prop := ∃ a l c g, NatM wx g (.slice a l c) n ∧ w.heap.size ≤ g ∧ Upd pz w wx ∧ St wx pz false (.slice a l c)
theorem cutMul_of {w w1 : World} {pz n g : Nat} {a : Option Addr} {l c : Nat} (hz : St w pz false (.slice none 0 0)) (hv : NatM w1 g (.slice a l c) n) (hg : w.heap.size ≤ g) (hb : Below w.heap.size w w1) (hp : pz < w.heap.size) :
    CutMul w pz n (w1.setCell ⟨pz, 1, none⟩ (.slice a l c)) :=
  ⟨a, l, c, g, hv.keep (Below.heap_setCell _ _ _ _ (show g ≠ pz by omega)), hg, (Upd.of_below hb).setCell 1 _, st_set1 (show St w1 pz false (.slice none 0 0) from (hb.block pz hp).trans hz) _⟩

def IntMulPost (w : World) (pz : Nat) (neg : Bool) (n : Nat) (e : Ending) (w' : World) : Prop :=
  ∃ v g, e = .returned (.tuple #[]) ∧ St w' pz (decide (0 < n) && neg) v ∧ NatM w' g v n ∧ w.heap.size ≤ g ∧ Upd pz w w'

set_option maxRecDepth 100000 in
set_option maxHeartbeats 1000000 in
theorem int_mul (pz px py gx gy : Nat) (xn yn : Bool) (xv yv : Value) (x y : Nat) (w : World) (hz : St w pz false (.slice none 0 0)) (hx : St w px xn xv) (hy : St w py yn yv) (nx : NatN w gx xv x) (ny : NatN w gy yv y)
    (h1 : px ≠ py) (h2 : pz ≠ px) (h3 : pz ≠ py) :
    Calls Tryz.prog 29 #[.pointer (some ⟨pz, 0, none⟩), .pointer none, .pointer (some ⟨px, 0, none⟩), .pointer (some ⟨py, 0, none⟩)] w (IntMulPost w pz (xn != yn) (x * y)) := by
  have cz0 : w.cell? ⟨pz, 0, none⟩ = some (.bool false) := cell_row hz 0
  have cz1 : w.cell? ⟨pz, 1, none⟩ = some (.slice none 0 0) := cell_row hz 1
  have cx0 : w.cell? ⟨px, 0, none⟩ = some (.bool xn) := cell_row hx 0
  have cx1 : w.cell? ⟨px, 1, none⟩ = some xv := cell_row hx 1
  have cy0 : w.cell? ⟨py, 0, none⟩ = some (.bool yn) := cell_row hy 0
  have cy1 : w.cell? ⟨py, 1, none⟩ = some yv := cell_row hy 1
  have fz0 : w.frozen? ⟨pz, 0, none⟩ = false := frozen_row hz 0
  have fz1 : w.frozen? ⟨pz, 1, none⟩ = false := frozen_row hz 1
  have sz := lt_of_cell cz0
  have sx := lt_of_cell cx0
  have sy := lt_of_cell cy0
  have C := Lib.hid (fun (W : World) (h : W.heap = w.heap) => (mulN gx gy x y xv yv W (nx.keep (by rw [h])) (ny.keep (by rw [h]))).mono fun _ _ => MulPost.s)
  have HZ := Lib.hid hz
  have hpe := ptr_ne hx hy h1
  clear hz hx hy nx ny
  go_enter Tryz.func29, Tryz.ntmps29
  go_wp2_with fail
  go_upto_region 3 with fail
  go_cut [] (fun wx => CutMul w pz (x * y) wx)
  case first =>
    go_region_with (go_at_call 45; refine (C.out _ (by rfl)).mono ?_; rintro e w1 ⟨sa, sl, sc, g, rfl, hv, hg, hb⟩; have q1 : w1.cell? ⟨pz, 1, none⟩ = some (.slice none 0 0) := (hb.cell (p := ⟨pz, 1, none⟩) sz).trans cz1; have q3 : w1.frozen? ⟨pz, 1, none⟩ = false := (hb.frozen (p := ⟨pz, 1, none⟩) sz).trans fz1)
    all_goals (go_wp2_with fail; go_meet; exact cutMul_of HZ.out hv hg (bl_undrew hb) sz)
  case rest =>
    obtain ⟨sa, sl, sc, g, hv, hg, hu, hs⟩ := hcut
    have r1 : wc.cell? ⟨pz, 1, none⟩ = some (.slice sa sl sc) := cell_row hs 1
    have r0 : wc.cell? ⟨pz, 0, none⟩ = some (.bool false) := cell_row hs 0
    have r2 : wc.frozen? ⟨pz, 0, none⟩ = false := frozen_row hs 0
    have r4 : wc.cell? ⟨px, 0, none⟩ = some (.bool xn) := (World.cell?_of_block (w := w) (hu.block px sx (Ne.symm h2))).trans cx0
    have r5 : wc.cell? ⟨py, 0, none⟩ = some (.bool yn) := (World.cell?_of_block (w := w) (hu.block py sy (Ne.symm h3))).trans cy0
    have HL := Lib.hid hv.len
    have HV := Lib.hid hv
    have HG := Lib.hid hg
    have HU := Lib.hid hu
    have HS := Lib.hid hs
    clear hv hg hu hs cz0 cz1 cx0 cx1 cy0 cy1 fz0 fz1 hpe C HZ
    by_cases hn : 0 < x * y
    · have hd : decide (0 < sl) = true := by rw [decide_eq_true_eq]; exact HL.out.1 hn
      have HN := Lib.hid hn
      clear hn
      go_wp2_with fail
      refine wp_region_still_tail 20 (by kernel_rfl) (by kernel_rfl) ?_
      change wpStill Tryz.prog _ wc.drew _ _ _
      simp only [List.take_succ_cons, List.take_zero, List.drop_succ_cons, List.drop_zero]
      iterate 20 ((with_reducible refine wpStill_want ?_ ?_); (· kernel_rfl); intro K hK; go_simp; (with_reducible refine hK _ ?_); clear hK K)
      (with_reducible refine wpStill_nil ?_)
      change wpList _ _ _ _ _ wc.drew
      go_wp2_with fail
      go_end0
      refine ⟨.slice sa sl sc, g, rfl, ?_, HV.out.keep ?_, HG.out, ?_⟩
      · rw [show (decide (0 < x * y) && (xn != yn)) = (xn != yn) by simp [HN.out]]
        exact st_set0 HS.out _
      · exact Below.heap_setCell _ _ _ _ (show g ≠ pz by have := HG.out; omega)
      · exact (HU.out.drew).setCell 0 _
    · obtain rfl : sl = 0 := HL.out.2 (by omega)
      have HN := Lib.hid hn
      clear hn
      go_wp2_with fail
      refine wp_region_still_tail 20 (by kernel_rfl) (by kernel_rfl) ?_
      change wpStill Tryz.prog _ wc.drew _ _ _
      simp only [List.take_succ_cons, List.take_zero, List.drop_succ_cons, List.drop_zero]
      iterate 8 ((with_reducible refine wpStill_want ?_ ?_); (· kernel_rfl); intro K hK; go_simp; (with_reducible refine hK _ ?_); clear hK K)
      iterate 9 ((with_reducible refine wpStill_skip ?_ ?_); (· kernel_rfl))
      simp only [Act.put]
      iterate 3 ((with_reducible refine wpStill_want ?_ ?_); (· kernel_rfl); intro K hK; go_simp; (with_reducible refine hK _ ?_); clear hK K)
      (with_reducible refine wpStill_nil ?_)
      change wpList _ _ _ _ _ wc.drew
      go_wp2_with fail
      go_end0
      refine ⟨.slice sa 0 sc, g, rfl, ?_, HV.out.keep ?_, HG.out, ?_⟩
      · rw [show (decide (0 < x * y) && (xn != yn)) = false by simp [HN.out]]
        exact st_set0 HS.out _
      · exact Below.heap_setCell _ _ _ _ (show g ≠ pz by have := HG.out; omega)
      · exact (HU.out.drew).setCell 0 _

def IntMulPtr (w : World) (pz : Nat) (neg : Bool) (n : Nat) (e : Ending) (w' : World) : Prop :=
  ∃ v g, e = .returned (.pointer (some ⟨pz, 0, none⟩)) ∧ St w' pz (decide (0 < n) && neg) v ∧ NatM w' g v n ∧ w.heap.size ≤ g ∧ Upd pz w w'

theorem int_Mul (pz px py gx gy : Nat) (xn yn : Bool) (xv yv : Value) (x y : Nat) (w : World) (hz : St w pz false (.slice none 0 0)) (hx : St w px xn xv) (hy : St w py yn yv) (nx : NatN w gx xv x) (ny : NatN w gy yv y)
    (h1 : px ≠ py) (h2 : pz ≠ px) (h3 : pz ≠ py) :
    Calls Tryz.prog 14 #[.pointer (some ⟨pz, 0, none⟩), .pointer (some ⟨px, 0, none⟩), .pointer (some ⟨py, 0, none⟩)] w (IntMulPtr w pz (xn != yn) (x * y)) := by
  have C := Lib.hid (int_mul pz px py gx gy xn yn xv yv x y w hz hx hy nx ny h1 h2 h3)
  clear hz hx hy nx ny h1 h2 h3
  go_enter Tryz.func14, Tryz.ntmps14
  go_wp2_with fail
  refine C.out.mono ?_
  rintro e w' ⟨v, g, rfl, hs, hn, hg, hu⟩
  go_wp2_with fail
  go_ret
  exact ⟨v, g, rfl, hs, hn, hg, hu⟩
end Go.Proofs.YtbmjghgiipibnaaGreatDoor
