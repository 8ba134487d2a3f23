/- WALKS of marchlandbig: Int.Cmp, Int.QuoRem. -/
import Derived.Test.YtbmjghgiipibnaaGreatDoorXM
import Derived.Test.YtbmjghgiipibnaaGreatDoorK
import Derived.Deep.RegionHeld3
namespace Go.Proofs.YtbmjghgiipibnaaGreatDoor
open Go.RowKit
set_option linter.unusedVariables false

def sgn (neg : Bool) (n : Nat) : Int := if neg then -(n : Int) else n
/-- what Cmp gives -/
def CmpI (w : World) (u v : Int) (e : Ending) (w' : World) : Prop := ∃ r : Int, e = .returned (.int .i64 r) ∧ (0 < r ↔ v < u) ∧ (r < 0 ↔ u < v) ∧ Drew w w'

theorem cmpZ_spec (x y : Nat) : (0 < cmpZ x y ↔ y < x) ∧ (cmpZ x y < 0 ↔ x < y) ∧ -1 ≤ cmpZ x y ∧ cmpZ x y ≤ 1 := by
  unfold cmpZ
  split
  · omega
  · split <;> omega

theorem quietD {P : Program} {f : FuncId} {args : Array Value} {w : World} {a n : Nat} {v : Value} (h : Calls P f args (w.drewN (a + n)) fun e w' => e = .returned v ∧ Drew (w.drewN (a + n)) w') :
    Calls P f args (w.drewN (a + n)) fun e w'' => e = .returned v ∧ ∃ m, w'' = w.drewN (a + m) :=
  h.mono fun _ _ ⟨he, m, hm⟩ => ⟨he, n + m, by rw [hm, World.drewN_drewN, Nat.add_assoc]⟩

set_option maxRecDepth 100000 in
theorem bigCmp (p q x y : Nat) (xn yn : Bool) (w : World) (hx : Ib w p xn x) (hy : Ib w q yn y) (bY : y < 18446744073709551616) :
    Calls Tryz.prog 41 #[.pointer (some ⟨p, 0, none⟩), .pointer (some ⟨q, 0, none⟩)] w (CmpI w (sgn xn x) (sgn yn y)) := by
  obtain ⟨xa, xl, xc, sx, nx, zx⟩ := hx
  obtain ⟨ya, yl, yc, sy, ny, zy⟩ := hy
  have cx0 : w.cell? ⟨p, 0, none⟩ = some (.bool xn) := cell_row sx 0
  have cx1 : w.cell? ⟨p, 1, none⟩ = some (.slice xa xl xc) := cell_row sx 1
  have cy0 : w.cell? ⟨q, 0, none⟩ = some (.bool yn) := cell_row sy 0
  have cy1 : w.cell? ⟨q, 1, none⟩ = some (.slice ya yl yc) := cell_row sy 1
  obtain ⟨z, hz1, hz2, hz3, hz4⟩ : ∃ z : Int, z = cmpZ x y ∧ (0 < z ↔ y < x) ∧ (z < 0 ↔ x < y) ∧ (-1 ≤ z ∧ z ≤ 1) := ⟨_, rfl, (cmpZ_spec x y).1, (cmpZ_spec x y).2.1, (cmpZ_spec x y).2.2⟩
  have C := Lib.hid (fun (W : World) (h : W.heap = w.heap) => cmp_any (nx.heap h) (ny.heap h) bY)
  unfold CmpPost at C
  rw [← hz1] at C
  have Z1 := Lib.hid hz2
  have Z2 := Lib.hid hz3
  have Z := Lib.hid (And.intro zx zy)
  clear sx sy nx ny hz1 hz2 hz3 bY zx zy
  obtain ⟨l4, u4⟩ := hz4
  cases xn <;> cases yn
  · have FIN := Lib.hid (show ∀ w', Drew w w' → CmpI w (sgn false x) (sgn false y) (.returned (.int .i64 (z))) w' from fun w' hw => ⟨z, rfl, by have := Z1.out; have := Z2.out; simp [sgn]; omega, by have := Z1.out; have := Z2.out; simp [sgn]; omega, hw⟩)
    go_enter Tryz.func41, Tryz.ntmps41
    go_wp2_with fail
    go_quiet (fail)
    go_wp2_with fail
    go_quiet ((go_at_call 58; exact quietD (C.out _ rfl)))
    go_wp2_with fail
    go_ret
    exact FIN.out _ (by first | exact ⟨_, rfl⟩ | (simp only [World.drewN_drewN]; exact ⟨_, rfl⟩))
  · have FIN := Lib.hid (show ∀ w', Drew w w' → CmpI w (sgn false x) (sgn true y) (.returned (.int .i64 (1))) w' from fun w' hw => ⟨1, rfl, by have := Z.out; simp at this; simp [sgn] <;> omega, by have := Z.out; simp at this; simp [sgn] <;> omega, hw⟩)
    go_enter Tryz.func41, Tryz.ntmps41
    go_wp2_with fail
    go_quiet (fail)
    go_wp2_with fail
    go_ret
    exact FIN.out _ (by first | exact ⟨_, rfl⟩ | (simp only [World.drewN_drewN]; exact ⟨_, rfl⟩))
  · have FIN := Lib.hid (show ∀ w', Drew w w' → CmpI w (sgn true x) (sgn false y) (.returned (.int .i64 (-1))) w' from fun w' hw => ⟨-1, rfl, by have := Z.out; simp at this; simp [sgn] <;> omega, by have := Z.out; simp at this; simp [sgn] <;> omega, hw⟩)
    go_enter Tryz.func41, Tryz.ntmps41
    go_wp2_with fail
    go_quiet (fail)
    go_wp2_with fail
    go_ret
    exact FIN.out _ (by first | exact ⟨_, rfl⟩ | (simp only [World.drewN_drewN]; exact ⟨_, rfl⟩))
  · have FIN := Lib.hid (show ∀ w', Drew w w' → CmpI w (sgn true x) (sgn true y) (.returned (.int .i64 (-z))) w' from fun w' hw => ⟨-z, rfl, by have := Z1.out; have := Z2.out; simp [sgn]; omega, by have := Z1.out; have := Z2.out; simp [sgn]; omega, hw⟩)
    go_enter Tryz.func41, Tryz.ntmps41
    go_wp2_with fail
    go_quiet (fail)
    go_wp2_with fail
    go_quiet ((go_at_call 58; exact quietD (C.out _ rfl)))
    go_wp2_with fail
    go_ret
    exact FIN.out _ (by first | exact ⟨_, rfl⟩ | (simp only [World.drewN_drewN]; exact ⟨_, rfl⟩))
end Go.Proofs.YtbmjghgiipibnaaGreatDoor
