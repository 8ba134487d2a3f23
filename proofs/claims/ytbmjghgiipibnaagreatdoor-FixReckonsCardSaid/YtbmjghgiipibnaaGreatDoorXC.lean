/- WALKS of marchlandbig: give, NewInt, Sign, Uint64, Int64, twin. -/
import Derived.Test.YtbmjghgiipibnaaGreatDoorXB
import Derived.OwnWalk
namespace Go.Proofs.YtbmjghgiipibnaaGreatDoor
open Go.RowKit
set_option linter.unusedVariables false

/-- a marchlandbig.Int's struct -/
def MSt (w : World) (p : Nat) (neg : Bool) (v : Value) : Prop := w.heap[p]? = some (.cells #[.bool neg, v] 60 (0, 0))
theorem mst_set1 {w : World} {p : Nat} {b : Bool} {u : Value} (h : MSt w p b u) (v : Value) : MSt (w.setCell ⟨p, 1, none⟩ v) p b v := by
  unfold MSt at *
  show (w.heap.modify p _)[p]? = _
  rw [Array.getElem?_modify, if_pos rfl, h]
  rfl
theorem mst_set0 {w : World} {p : Nat} {b : Bool} {u : Value} (h : MSt w p b u) (c : Bool) : MSt (w.setCell ⟨p, 0, none⟩ (.bool c)) p c u := by
  unfold MSt at *
  show (w.heap.modify p _)[p]? = _
  rw [Array.getElem?_modify, if_pos rfl, h]
  rfl
theorem MSt.lt {w : World} {p : Nat} {b : Bool} {u : Value} (h : MSt w p b u) : p < w.heap.size := (Array.getElem?_eq_some_iff.1 h).1

/-- a number with its sign, at a pointer -/
def Ib (w : World) (p : Nat) (neg : Bool) (n : Nat) : Prop := ∃ a l c, MSt w p neg (.slice a l c) ∧ Nb w (.slice a l c) n ∧ (n = 0 → neg = false)
theorem Ib.lt {w : World} {p n : Nat} {b : Bool} (h : Ib w p b n) : p < w.heap.size := by obtain ⟨a, l, c, h, _⟩ := h; exact h.lt

theorem Upd.refl (z : Nat) (w : World) : Upd z w w := ⟨rfl, rfl, rfl, Nat.le_refl _, fun _ _ _ => rfl⟩
theorem Upd.trans {z : Nat} {a b c : World} (h : Upd z a b) (g : Upd z b c) : Upd z a c :=
  ⟨g.os.trans h.os, g.tape.trans h.tape, g.output.trans h.output, Nat.le_trans h.size g.size, fun k hk hz => (g.block k (Nat.lt_of_lt_of_le hk h.size) hz).trans (h.block k hk hz)⟩
theorem Upd.below {z : Nat} {w0 a b : World} (h : Upd z a b) (hb : Below w0.heap.size w0 a) (hz : w0.heap.size ≤ z) : Below w0.heap.size w0 b :=
  hb.trans ⟨h.os, h.tape, h.output, h.size, fun k hk => h.block k (Nat.lt_of_lt_of_le hk hb.size) (by omega)⟩

/-- words are no struct: they stay where a struct is written -/
theorem Nb.upd {z : Nat} {w w' : World} {v : Value} {n : Nat} {b : Bool} {a : Option Addr} {l c : Nat} (h : Nb w v n) (hu : Upd z w w') (hz : MSt w z b (.slice a l c)) : Nb w' v n :=
  h.keepC fun g i x hx => by
    have hg := lt_of_cell hx
    have hne : g ≠ z := by
      rintro rfl
      unfold MSt at hz
      rcases i with _ | _ | i <;> simp [World.cell?, hz] at hx
    exact (World.cell?_of_block (w := w) (hu.block g hg hne)).trans hx
theorem Nb.set {z i : Nat} {w : World} {v u : Value} {n : Nat} {b : Bool} {a : Option Addr} {l c : Nat} (h : Nb w v n) (hz : MSt w z b (.slice a l c)) : Nb (w.setCell ⟨z, i, none⟩ u) v n :=
  h.upd ((Upd.refl z w).setCell i u) hz

theorem Ib.keep {z p n : Nat} {w w' : World} {b b' : Bool} {v : Value} {a : Option Addr} {l c : Nat} (h : Ib w p b n) (hu : Upd z w w') (hz : MSt w z b' (.slice a l c)) (hp : p ≠ z) : Ib w' p b n := by
  obtain ⟨a, l, c, hs, hn, h0⟩ := h
  exact ⟨a, l, c, (hu.block p hs.lt hp).trans hs, hn.upd hu hz, h0⟩
theorem Ib.below {p n : Nat} {w w' : World} {b : Bool} (h : Ib w p b n) (hb : Below w.heap.size w w') : Ib w' p b n := by
  obtain ⟨a, l, c, hs, hn, h0⟩ := h
  exact ⟨a, l, c, (hb.block p hs.lt).trans hs, hn.below hb, h0⟩

/-- what give leaves -/
def GivePost (w : World) (z : Nat) (neg : Bool) (n : Nat) (e : Ending) (w' : World) : Prop := e = .returned (.pointer (some ⟨z, 0, none⟩)) ∧ Ib w' z (neg && decide (0 < n)) n ∧ Upd z w w'
theorem give_any (z : Nat) (neg b : Bool) (a : Option Addr) (l c n : Nat) (a' : Option Addr) (l' c' : Nat) (w : World) (hz : MSt w z b (.slice a' l' c')) (hn : Nb w (.slice a l c) n) :
    Calls Tryz.prog 36 #[.pointer (some ⟨z, 0, none⟩), .bool neg, .slice a l c] w (GivePost w z neg n) := by
  have hl : decide (0 < l) = decide (0 < n) := by rw [decide_eq_decide]; exact hn.len.symm
  have fin : ∀ x : Bool, x = (neg && decide (0 < n)) → GivePost w z neg n (.returned (.pointer (some ⟨z, 0, none⟩))) ((w.setCell ⟨z, 1, none⟩ (.slice a l c)).setCell ⟨z, 0, none⟩ (.bool x)) := fun x hx => by
    have s1 := mst_set1 hz (.slice a l c)
    have n1 := hn.set (i := 1) (u := .slice a l c) hz
    refine ⟨rfl, ⟨a, l, c, ?_, n1.set (i := 0) (u := .bool x) s1, fun h0 => by simp [h0]⟩, ((Upd.refl z w).setCell 1 _).setCell 0 _⟩
    rw [← hx]; exact mst_set0 s1 x
  have FIN := Lib.hid fin
  have z0 : w.cell? ⟨z, 0, none⟩ = some (.bool b) := cell_row hz 0
  have z1 : w.cell? ⟨z, 1, none⟩ = some (.slice a' l' c') := cell_row hz 1
  have f0 : w.frozen? ⟨z, 0, none⟩ = false := frozen_row hz 0
  have f1 : w.frozen? ⟨z, 1, none⟩ = false := frozen_row hz 1
  by_cases h0 : 0 < n
  · have hl0 : 0 < l := hn.len.1 h0
    clear fin hn hz hl
    cases neg
    · go_enter Tryz.func36, Tryz.ntmps36
      go_wp2_with fail
      go_ret
      exact FIN.out false (by simp)
    · go_enter Tryz.func36, Tryz.ntmps36
      go_wp2_with fail
      go_ret
      exact FIN.out true (by simp [h0])
  · have hl0 : l = 0 := by have := hn.len; omega
    subst hl0
    clear fin hn hz hl
    cases neg
    all_goals
      go_enter Tryz.func36, Tryz.ntmps36
      go_wp2_with fail
      go_ret
      exact FIN.out false (by simp [h0])
end Go.Proofs.YtbmjghgiipibnaaGreatDoor
