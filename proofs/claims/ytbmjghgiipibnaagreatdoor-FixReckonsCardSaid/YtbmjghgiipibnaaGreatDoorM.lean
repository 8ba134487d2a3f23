/- WALK of math/big's (*Int).Sub, as fix.down calls it: one is taken away from a number that is not above nought. -/
import Derived.Test.YtbmjghgiipibnaaGreatDoorL
import Derived.Test.YtbmjghgiipibnaaGreatDoorK
namespace Go.Proofs.YtbmjghgiipibnaaGreatDoor
open Go.RowKit
set_option linter.unusedVariables false

theorem st_nat_ne {w : World} {p g : Nat} {b : Bool} {v : Value} {c : Array Value} (h : St w p b v) (hg : w.heap[g]? = some (.cells c 50 (0, 0))) : p ≠ g := by
  intro e; subst e; unfold St at h; rw [h] at hg; injection hg with hg; injection hg with _ h2; exact absurd h2 (by decide)

theorem row_set {w : World} {g : Nat} {c : Array Value} {t : TypeId} (h : w.heap[g]? = some (.cells c t (0, 0))) (i : Nat) (v : Value) : (w.setCell ⟨g, i, none⟩ v).heap[g]? = some (.cells (c.setIfInBounds i v) t (0, 0)) := by
  show (w.heap.modify g _)[g]? = _
  rw [Array.getElem?_modify, if_pos rfl, h]
  rfl

/-- what add leaves: one more, in a row of six -/
def AddPost (w : World) (gz n : Nat) (e : Ending) (w' : World) : Prop :=
  ∃ g', e = .returned (.slice (some ⟨g', 0, none⟩) 1 6) ∧ One6 w' g' (.slice (some ⟨g', 0, none⟩) 1 6) (n + 1) ∧ (g' = gz ∨ w.heap.size ≤ g') ∧ Upd gz w w'

theorem addQ1 (gz gy n : Nat) (hn : n + 1 < 18446744073709551616) (w : World) (hz : One1 w gz (.slice (some ⟨gz, 0, none⟩) 1 1) n) (hy : w.cell? ⟨gy, 0, none⟩ = some (.int .u64 1)) :
    Calls Tryz.prog 47 #[.slice (some ⟨gz, 0, none⟩) 1 1, .slice (some ⟨gz, 0, none⟩) 1 1, .slice (some ⟨gy, 0, none⟩) 1 1] w (AddPost w gz n) := by
  refine (add_one1 gz gy n hn w (cell_row hz.2.2.2 0) hy).mono ?_
  rintro e w' ⟨rfl, m, rfl⟩
  exact ⟨w.heap.size, rfl, ⟨by omega, hn, rfl, new_heap _ _⟩, .inr (Nat.le_refl _), (Upd.of_below (bl_one _ _)).drewN m⟩

theorem addQ6 (gz gy n : Nat) (hn : n + 1 < 18446744073709551616) (w : World) (hne : gz ≠ gy) (hz : One6 w gz (.slice (some ⟨gz, 0, none⟩) 1 6) n) (hy : w.cell? ⟨gy, 0, none⟩ = some (.int .u64 1)) :
    Calls Tryz.prog 47 #[.slice (some ⟨gz, 0, none⟩) 1 6, .slice (some ⟨gz, 0, none⟩) 1 6, .slice (some ⟨gy, 0, none⟩) 1 1] w (AddPost w gz n) := by
  have h := hz.2.2.2
  refine (add_one6 gz gy n hn w _ hne (cell_row h 0) (cell_row h 1) (frozen_row h 0) (frozen_row h 1) hy).mono ?_
  rintro e w' ⟨rfl, m, rfl⟩
  refine ⟨gz, rfl, ⟨by omega, hn, rfl, ?_⟩, .inl rfl, (((Upd.of_below (Below.refl _ w)).setCell 0 _).setCell 1 _).drewN m⟩
  exact row_set (row_set h 0 _) 1 _

/-- behind 'z.abs = z.abs.add(..)' -/
def CutSub (w : World) (pz gz n : Nat) (neg : Bool) (wx : World) : Prop := ∃ g' k, NatQ wx g' (.slice (some ⟨g', 0, none⟩) 1 k) (n + 1) ∧ (g' = gz ∨ w.heap.size ≤ g') ∧ Upd2 pz gz w wx ∧ St wx pz neg (.slice (some ⟨g', 0, none⟩) 1 k)

theorem cutSub_of {w w1 : World} {pz gz n g' k : Nat} {neg : Bool} {v : Value} (hz : St w pz neg v) (hp : pz < w.heap.size) (hne : pz ≠ gz) (hv : NatQ w1 g' (.slice (some ⟨g', 0, none⟩) 1 k) (n + 1)) (hg : g' = gz ∨ w.heap.size ≤ g') (hu : Upd gz w w1) :
    CutSub w pz gz n neg (w1.setCell ⟨pz, 1, none⟩ (.slice (some ⟨g', 0, none⟩) 1 k)) :=
  ⟨g', k, hv.keep (Below.heap_setCell _ _ _ _ (show g' ≠ pz by rcases hg with h | h <;> omega)), hg,
    (⟨hu.os, hu.tape, hu.output, hu.size, fun k hk _ h2 => hu.block k hk h2⟩ : Upd2 pz gz w w1).setCell1 1 _, st_set1 (show St w1 pz neg v from (hu.block pz hp hne).trans hz) _⟩

def SubPost (w : World) (pz gz n : Nat) (e : Ending) (w' : World) : Prop :=
  ∃ v' g', e = .returned (.pointer (some ⟨pz, 0, none⟩)) ∧ St w' pz true v' ∧ NatQ w' g' v' (n + 1) ∧ (g' = gz ∨ w.heap.size ≤ g') ∧ Upd2 pz gz w w'

theorem Upd.undrew {z : Nat} {w w' : World} (h : Upd z w.drew w') : Upd z w w' := ⟨h.os, h.tape, h.output, h.size, h.block⟩
theorem Upd.undrewN {z n : Nat} {w w' : World} (h : Upd z (w.drewN n) w') : Upd z w w' := ⟨h.os, h.tape, h.output, h.size, h.block⟩

set_option maxRecDepth 100000 in
set_option maxHeartbeats 4000000 in
/-- below nought: one word more -/
theorem int_sub_neg (pz py gz gy k n : Nat) (hk : k = 1 ∨ k = 6) (hn : n + 1 < 18446744073709551616) (w : World) (hz : St w pz true (.slice (some ⟨gz, 0, none⟩) 1 k)) (hy : St w py false (.slice (some ⟨gy, 0, none⟩) 1 1))
    (C0 : ∀ W : World, W.heap = w.heap → Calls Tryz.prog 47 #[.slice (some ⟨gz, 0, none⟩) 1 k, .slice (some ⟨gz, 0, none⟩) 1 k, .slice (some ⟨gy, 0, none⟩) 1 1] W (AddPost W gz n)) (h1 : pz ≠ py) (h2 : pz ≠ gz) (h3 : py ≠ gz) :
    Calls Tryz.prog 32 #[.pointer (some ⟨pz, 0, none⟩), .pointer (some ⟨pz, 0, none⟩), .pointer (some ⟨py, 0, none⟩)] w (SubPost w pz gz n) := by
  have cz0 : w.cell? ⟨pz, 0, none⟩ = some (.bool true) := cell_row hz 0
  have cz1 : w.cell? ⟨pz, 1, none⟩ = some (.slice (some ⟨gz, 0, none⟩) 1 k) := cell_row hz 1
  have cy0 : w.cell? ⟨py, 0, none⟩ = some (.bool false) := cell_row hy 0
  have cy1 : w.cell? ⟨py, 1, none⟩ = some (.slice (some ⟨gy, 0, none⟩) 1 1) := cell_row hy 1
  have fz0 : w.frozen? ⟨pz, 0, none⟩ = false := frozen_row hz 0
  have fz1 : w.frozen? ⟨pz, 1, none⟩ = false := frozen_row hz 1
  have sz := lt_of_cell cz0
  have C := Lib.hid C0
  have HZ := Lib.hid hz
  clear hz hy C0 hk
  go_enter Tryz.func32, Tryz.ntmps32
  go_wp2_with fail
  go_quiet (fail)
  go_upto_region 3 with fail
  go_cut [] (fun wx => CutSub w pz gz n true wx)
  case first =>
    go_region_with (go_at_call 47; refine (C.out _ (by rfl)).mono ?_; rintro e w1 ⟨g', rfl, hv, hg, hu⟩; have q1 : w1.cell? ⟨pz, 1, none⟩ = some (.slice (some ⟨gz, 0, none⟩) 1 k) := (World.cell?_of_block (w := w) (hu.block pz sz h2)).trans cz1; have q3 : w1.frozen? ⟨pz, 1, none⟩ = false := (World.frozen?_of_block (w := w) (hu.block pz sz h2)).trans fz1)
    all_goals (go_wp2_with fail; go_meet)
    all_goals exact cutSub_of HZ.out sz h2 (.inr (.inr (.inr (.inl hv)))) hg ⟨hu.os, hu.tape, hu.output, hu.size, hu.block⟩
  case rest =>
    obtain ⟨g', k', hv, hg, hu, hs⟩ := hcut
    have r1 : wc.cell? ⟨pz, 1, none⟩ = some (.slice (some ⟨g', 0, none⟩) 1 k') := cell_row hs 1
    have r0 : wc.cell? ⟨pz, 0, none⟩ = some (.bool true) := cell_row hs 0
    have r2 : wc.frozen? ⟨pz, 0, none⟩ = false := frozen_row hs 0
    have HV := Lib.hid hv
    have HG := Lib.hid hg
    have HU := Lib.hid hu
    have HS := Lib.hid hs
    clear hv hg hu hs cz0 cz1 cy0 cy1 fz0 fz1 C HZ
    go_wp2_with fail
    go_ret
    refine ⟨.slice (some ⟨g', 0, none⟩) 1 k', g', rfl, st_set0 HS.out _, HV.out.keep (Below.heap_setCell _ _ _ _ (show g' ≠ pz from ?_)), HG.out, HU.out.setCell1 0 _⟩
    have := HG.out
    rcases this with h | h <;> omega

set_option maxRecDepth 100000 in
set_option maxHeartbeats 4000000 in
/-- nought: one below -/
theorem int_sub_nought (pz py gz gy : Nat) (v : Value) (l c : Nat) (a : Option Addr) (hv0 : v = .slice a 0 c) (w : World) (hz : St w pz false (.slice a 0 c)) (hy : St w py false (.slice (some ⟨gy, 0, none⟩) 1 1))
    (D0 : ∀ W : World, W.heap = w.heap → Calls Tryz.prog 48 #[.slice a 0 c, .slice (some ⟨gy, 0, none⟩) 1 1] W fun e w' => e = .returned (.int .i64 (-1)) ∧ W = w')
    (C0 : ∀ W : World, W.heap = w.heap → Calls Tryz.prog 49 #[.slice a 0 c, .slice (some ⟨gy, 0, none⟩) 1 1, .slice a 0 c] W fun e w' => ∃ g', e = .returned (.slice (some ⟨g', 0, none⟩) 1 1) ∧ One1 w' g' (.slice (some ⟨g', 0, none⟩) 1 1) 1 ∧ (g' = gz ∨ W.heap.size ≤ g') ∧ Upd gz W w')
    (h1 : pz ≠ py) (h2 : pz ≠ gz) (h3 : py ≠ gz) :
    Calls Tryz.prog 32 #[.pointer (some ⟨pz, 0, none⟩), .pointer (some ⟨pz, 0, none⟩), .pointer (some ⟨py, 0, none⟩)] w (SubPost w pz gz 0) := by
  have cz0 : w.cell? ⟨pz, 0, none⟩ = some (.bool false) := cell_row hz 0
  have cz1 : w.cell? ⟨pz, 1, none⟩ = some (.slice a 0 c) := cell_row hz 1
  have cy0 : w.cell? ⟨py, 0, none⟩ = some (.bool false) := cell_row hy 0
  have cy1 : w.cell? ⟨py, 1, none⟩ = some (.slice (some ⟨gy, 0, none⟩) 1 1) := cell_row hy 1
  have fz0 : w.frozen? ⟨pz, 0, none⟩ = false := frozen_row hz 0
  have fz1 : w.frozen? ⟨pz, 1, none⟩ = false := frozen_row hz 1
  have sz := lt_of_cell cz0
  have C := Lib.hid C0
  have D := Lib.hid D0
  have HZ := Lib.hid hz
  clear hz hy C0 D0 hv0
  go_enter Tryz.func32, Tryz.ntmps32
  go_wp2_with fail
  go_quiet (fail)
  go_wp2_with fail
  go_quiet ((go_at_call 48; exact (D.out _ (by rfl)).mono fun e w2 h => ⟨h.1, _, h.2.symm⟩))
  go_upto_region 7 with fail
  go_cut [] (fun wx => CutSub w pz gz 0 false wx)
  case first =>
    go_region_with (go_at_call 49; refine (C.out _ (by rfl)).mono ?_; rintro e w1 ⟨g', rfl, hv, hg, hu⟩; have q1 : w1.cell? ⟨pz, 1, none⟩ = some (.slice a 0 c) := (World.cell?_of_block (w := w) (hu.block pz sz h2)).trans cz1; have q3 : w1.frozen? ⟨pz, 1, none⟩ = false := (World.frozen?_of_block (w := w) (hu.block pz sz h2)).trans fz1)
    all_goals (go_wp2_with fail; go_meet)
    all_goals exact cutSub_of HZ.out sz h2 (.inr (.inr (.inl hv))) hg ⟨hu.os, hu.tape, hu.output, hu.size, hu.block⟩
  case rest =>
    obtain ⟨g', k', hv, hg, hu, hs⟩ := hcut
    have r1 : wc.cell? ⟨pz, 1, none⟩ = some (.slice (some ⟨g', 0, none⟩) 1 k') := cell_row hs 1
    have r0 : wc.cell? ⟨pz, 0, none⟩ = some (.bool false) := cell_row hs 0
    have r2 : wc.frozen? ⟨pz, 0, none⟩ = false := frozen_row hs 0
    have HV := Lib.hid hv
    have HG := Lib.hid hg
    have HU := Lib.hid hu
    have HS := Lib.hid hs
    clear hv hg hu hs cz0 cz1 cy0 cy1 fz0 fz1 C HZ D
    go_wp2_with fail
    go_ret
    refine ⟨.slice (some ⟨g', 0, none⟩) 1 k', g', rfl, st_set0 HS.out _, HV.out.keep (Below.heap_setCell _ _ _ _ (show g' ≠ pz from ?_)), HG.out, HU.out.setCell1 0 _⟩
    have := HG.out
    rcases this with h | h <;> omega
end Go.Proofs.YtbmjghgiipibnaaGreatDoor
