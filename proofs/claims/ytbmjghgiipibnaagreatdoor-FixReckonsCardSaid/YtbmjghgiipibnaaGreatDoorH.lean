/- WHERE A BIG NUMBER LIES: its words, its struct; nat.div over these. -/
import Derived.Test.YtbmjghgiipibnaaGreatDoorG
namespace Go.Proofs.YtbmjghgiipibnaaGreatDoor
open Go.RowKit
set_option linter.unusedVariables false

/-- one word, in a row of one -/
def One1 (w : World) (g : Nat) (v : Value) (n : Nat) : Prop := 0 < n ∧ n < 18446744073709551616 ∧ v = .slice (some ⟨g, 0, none⟩) 1 1 ∧ w.heap[g]? = some (.cells #[.int .u64 n] 50 (0, 0))
/-- one word, in a row of six -/
def One6 (w : World) (g : Nat) (v : Value) (n : Nat) : Prop := 0 < n ∧ n < 18446744073709551616 ∧ v = .slice (some ⟨g, 0, none⟩) 1 6 ∧ w.heap[g]? = some (.cells #[.int .u64 n, .int .u64 0, .int .u64 0, .int .u64 0, .int .u64 0, .int .u64 0] 50 (0, 0))
/-- two words, in a row of six -/
def Two6 (w : World) (g : Nat) (v : Value) (n : Nat) : Prop := ∃ lo hi : Nat, n = hi * 18446744073709551616 + lo ∧ 0 < hi ∧ hi < 18446744073709551616 ∧ lo < 18446744073709551616 ∧ v = .slice (some ⟨g, 0, none⟩) 2 6 ∧
  w.heap[g]? = some (.cells #[.int .u64 lo, .int .u64 hi, .int .u64 0, .int .u64 0, .int .u64 0, .int .u64 0] 50 (0, 0))
/-- no word, in a row of one -/
def Zero1 (w : World) (g : Nat) (v : Value) (n : Nat) : Prop := n = 0 ∧ v = .slice (some ⟨g, 0, none⟩) 0 1 ∧ w.heap[g]? = some (.cells #[.int .u64 0] 50 (0, 0))
/-- no word, nil -/
def Nil0 (v : Value) (n : Nat) : Prop := n = 0 ∧ v = .slice none 0 0

/-- a number as NewInt lays it -/
def NatN (w : World) (g : Nat) (v : Value) (n : Nat) : Prop := Nil0 v n ∨ One1 w g v n
/-- a number as Mul lays it -/
def NatM (w : World) (g : Nat) (v : Value) (n : Nat) : Prop := Nil0 v n ∨ One6 w g v n ∨ Two6 w g v n
/-- a number as div lays its quotient -/
def NatQ (w : World) (g : Nat) (v : Value) (n : Nat) : Prop := Nil0 v n ∨ Zero1 w g v n ∨ One1 w g v n ∨ One6 w g v n ∨ Two6 w g v n

theorem cell_row {w : World} {g : Nat} {c : Array Value} {t : TypeId} (h : w.heap[g]? = some (.cells c t (0, 0))) (i : Nat) : w.cell? ⟨g, i, none⟩ = c[i]? := by
  simp [World.cell?, h]
theorem frozen_row {w : World} {g : Nat} {c : Array Value} {t : TypeId} (h : w.heap[g]? = some (.cells c t (0, 0))) (i : Nat) : w.frozen? ⟨g, i, none⟩ = false := by
  simp [World.frozen?, h]

theorem One1.keep {w w' : World} {g : Nat} {v : Value} {n : Nat} (h : One1 w g v n) (hg : w'.heap[g]? = w.heap[g]?) : One1 w' g v n := by
  obtain ⟨a, b, c, d⟩ := h; exact ⟨a, b, c, hg.trans d⟩
theorem One6.keep {w w' : World} {g : Nat} {v : Value} {n : Nat} (h : One6 w g v n) (hg : w'.heap[g]? = w.heap[g]?) : One6 w' g v n := by
  obtain ⟨a, b, c, d⟩ := h; exact ⟨a, b, c, hg.trans d⟩
theorem Two6.keep {w w' : World} {g : Nat} {v : Value} {n : Nat} (h : Two6 w g v n) (hg : w'.heap[g]? = w.heap[g]?) : Two6 w' g v n := by
  obtain ⟨lo, hi, a, b, c, d, e, f⟩ := h; exact ⟨lo, hi, a, b, c, d, e, hg.trans f⟩
theorem Zero1.keep {w w' : World} {g : Nat} {v : Value} {n : Nat} (h : Zero1 w g v n) (hg : w'.heap[g]? = w.heap[g]?) : Zero1 w' g v n := by
  obtain ⟨a, b, c⟩ := h; exact ⟨a, b, hg.trans c⟩
theorem NatN.keep {w w' : World} {g : Nat} {v : Value} {n : Nat} (h : NatN w g v n) (hg : w'.heap[g]? = w.heap[g]?) : NatN w' g v n := by
  rcases h with h | h
  · exact .inl h
  · exact .inr (h.keep hg)
theorem NatM.keep {w w' : World} {g : Nat} {v : Value} {n : Nat} (h : NatM w g v n) (hg : w'.heap[g]? = w.heap[g]?) : NatM w' g v n := by
  rcases h with h | h | h
  · exact .inl h
  · exact .inr (.inl (h.keep hg))
  · exact .inr (.inr (h.keep hg))
theorem NatQ.keep {w w' : World} {g : Nat} {v : Value} {n : Nat} (h : NatQ w g v n) (hg : w'.heap[g]? = w.heap[g]?) : NatQ w' g v n := by
  rcases h with h | h | h | h | h
  · exact .inl h
  · exact .inr (.inl (h.keep hg))
  · exact .inr (.inr (.inl (h.keep hg)))
  · exact .inr (.inr (.inr (.inl (h.keep hg))))
  · exact .inr (.inr (.inr (.inr (h.keep hg))))

/-- what div leaves -/
def DivPost (w : World) (n y : Nat) (e : Ending) (w' : World) : Prop :=
  ∃ qv rv gq gr, e = .returned (.tuple #[qv, rv]) ∧ NatQ w' gq qv (n / y) ∧ NatN w' gr rv (n % y) ∧ w.heap.size ≤ gq ∧ w.heap.size ≤ gr ∧ Below w.heap.size w w'

/-- the remainder's part, behind divW -/
theorem new_heap (w : World) (o : Obj) : (w.alloc o).heap[w.heap.size]? = some o := heap_alloc_new w o
theorem old_heap (w : World) (o : Obj) (k : Nat) (h : k < w.heap.size) : (w.alloc o).heap[k]? = w.heap[k]? := Below.heap_alloc w o k h

theorem new_heap2 (w : World) (o p : Obj) : ((w.alloc o).alloc p).heap[w.heap.size + 1]? = some p := by
  have e : (w.alloc o).heap.size = w.heap.size + 1 := by simp
  rw [← e]; exact new_heap _ _
theorem bl_drewN {B : Nat} {a w : World} (h : Below B a w) (n : Nat) : Below B a (w.drewN n) := ⟨h.os, h.tape, h.output, h.size, h.block⟩
theorem bl_one (w : World) (o : Obj) : Below w.heap.size w (w.alloc o) := (Below.refl _ _).alloc (Nat.le_refl _) _
theorem bl_two (w : World) (o p : Obj) : Below w.heap.size w ((w.alloc o).alloc p) := ((Below.refl _ _).alloc (Nat.le_refl _) _).alloc (by simp) _

theorem div_nil (y : Nat) (hy0 : 0 < y) (ky gy : Nat) (hk1 : 1 ≤ ky) (hk2 : ky ≤ 100) (w : World) (h0 : w.cell? ⟨gy, 0, none⟩ = some (.int .u64 y)) :
    Calls Tryz.prog 46 #[.slice none 0 0, .pointer none, .slice none 0 0, .slice none 0 0, .slice (some ⟨gy, 0, none⟩) 1 ky] w (DivPost w 0 y) := by
  go_enter Tryz.func46, Tryz.ntmps46
  go_wp2_with fail
  refine (divW_nil y hy0 _).mono ?_
  rintro e w' ⟨rfl, rfl⟩
  go_wp2_with fail
  refine (setWord_nought _).mono ?_
  rintro e w' ⟨rfl, rfl⟩
  go_wp2_with fail
  go_ret2
  exact ⟨_, _, w.heap.size, w.heap.size, rfl, .inl ⟨by simp, rfl⟩, .inl ⟨by simp, rfl⟩, Nat.le_refl _, Nat.le_refl _, Below.refl _ _⟩

theorem div_one (gx kx x y : Nat) (hx0 : 0 < x) (hx : x < 18446744073709551616) (hy0 : 0 < y) (hy : y < 18446744073709551616) (hkx : kx = 1 ∨ kx = 6) (ky gy : Nat) (hk1 : 1 ≤ ky) (hk2 : ky ≤ 100) (w : World)
    (hx1 : w.cell? ⟨gx, 0, none⟩ = some (.int .u64 x)) (h0 : w.cell? ⟨gy, 0, none⟩ = some (.int .u64 y)) :
    Calls Tryz.prog 46 #[.slice none 0 0, .pointer none, .slice none 0 0, .slice (some ⟨gx, 0, none⟩) 1 kx, .slice (some ⟨gy, 0, none⟩) 1 ky] w (DivPost w x y) := by
  have hR : x % y < y := Nat.mod_lt _ hy0
  have hq : x = x / y * y + x % y := by rw [Nat.mul_comm]; exact (Nat.div_add_mod x y).symm
  have hQ : x / y ≤ x := Nat.div_le_self _ _
  unfold DivPost
  generalize x / y = Q at *
  generalize x % y = R at *
  obtain ⟨n, hn⟩ : ∃ n : Nat, n = if Q = 0 then 0 else 1 := ⟨_, rfl⟩
  have C1 := Lib.hid (fun w h => divW_one gx kx x y Q R (by omega) (by omega) hx0 hx hy hq hR w h n hn)
  have HN := Lib.hid hn
  have HB := Lib.hid (show Q < 18446744073709551616 ∧ R < 18446744073709551616 by omega)
  have fq : ∀ wx : World, wx.heap[w.heap.size]? = some (.cells #[.int .u64 Q] 50 (0, 0)) → NatQ wx w.heap.size (.slice (some ⟨w.heap.size, 0, none⟩) n 1) Q := by
    intro wx hwx
    have hn := HN.out
    by_cases hz : Q = 0
    · subst hz; rw [if_pos rfl] at hn; subst hn; exact .inr (.inl ⟨rfl, rfl, hwx⟩)
    · rw [if_neg hz] at hn; subst hn; exact .inr (.inr (.inl ⟨by omega, HB.out.1, rfl, hwx⟩))
  have FQ := Lib.hid fq
  clear fq hn hq hx hy hR
  by_cases hz : R = 0
  · subst hz
    go_enter Tryz.func46, Tryz.ntmps46
    go_wp2_with fail
    refine (C1.out _ hx1).mono ?_
    rintro e w' ⟨rfl, m, rfl⟩
    go_wp2_with fail
    refine (setWord_nought _).mono ?_
    rintro e w' ⟨rfl, rfl⟩
    go_wp2_with fail
    go_ret2
    exact ⟨_, _, w.heap.size, w.heap.size, rfl, FQ.out _ (new_heap _ _), .inl ⟨rfl, rfl⟩, Nat.le_refl _, Nat.le_refl _, bl_drewN (bl_one _ _) _⟩
  · have C2 := fun w => Lib.hid (setWord_one R (by omega) w)
    go_enter Tryz.func46, Tryz.ntmps46
    go_wp2_with fail
    refine (C1.out _ hx1).mono ?_
    rintro e w' ⟨rfl, m, rfl⟩
    go_wp2_with fail
    refine (C2 _).out.mono ?_
    rintro e w' ⟨rfl, rfl⟩
    go_wp2_with fail
    go_ret2
    refine ⟨_, _, w.heap.size, w.heap.size + 1, rfl, FQ.out _ ?_, .inr ⟨by omega, HB.out.2, rfl, ?_⟩, Nat.le_refl _, by omega, ?_⟩
    · exact (old_heap _ _ _ (by simp)).trans (new_heap _ _)
    · exact new_heap2 _ _ _
    · exact bl_drewN (bl_two _ _ _) _

theorem div_two (gx x0 x1 : Nat) (hx0 : x0 < 18446744073709551616) (hp : 0 < x1) (hx1 : x1 < 18446744073709551616) (ky gy : Nat) (hk1 : 1 ≤ ky) (hk2 : ky ≤ 100) (w : World)
    (c0 : w.cell? ⟨gx, 0, none⟩ = some (.int .u64 x0)) (c1 : w.cell? ⟨gx, 1, none⟩ = some (.int .u64 x1)) (h0 : w.cell? ⟨gy, 0, none⟩ = some (.int .u64 65536)) :
    Calls Tryz.prog 46 #[.slice none 0 0, .pointer none, .slice none 0 0, .slice (some ⟨gx, 0, none⟩) 2 6, .slice (some ⟨gy, 0, none⟩) 1 ky] w (DivPost w (x1 * 18446744073709551616 + x0) 65536) := by
  have C1 := Lib.hid (fun w a b => divW_two gx x0 x1 hx0 hx1 hp w a b)
  have HX := Lib.hid (And.intro hx0 hx1)
  clear hx0 hx1
  go_enter Tryz.func46, Tryz.ntmps46
  go_wp2_with fail
  refine (C1.out _ c0 c1).mono ?_
  rintro e w' ⟨Q0, Q1, R, n, rfl, hq, hn, rfl⟩
  have HQ := Lib.hid hq
  have HN := Lib.hid hn
  clear hq hn
  have eQ : Hid ((x1 * 18446744073709551616 + x0) / 65536 = Q1 * 18446744073709551616 + Q0) := by
    have := HQ.out; show _ = _; omega
  have eR : Hid ((x1 * 18446744073709551616 + x0) % 65536 = R) := by
    have := HQ.out; show _ = _; omega
  have fq : ∀ wx : World, wx.heap[w.heap.size]? = some (.cells #[.int .u64 Q0, .int .u64 Q1, .int .u64 0, .int .u64 0, .int .u64 0, .int .u64 0] 50 (0, 0)) → NatQ wx w.heap.size (.slice (some ⟨w.heap.size, 0, none⟩) n 6) ((x1 * 18446744073709551616 + x0) / 65536) := by
    intro wx hwx
    have hn := HN.out
    rw [eQ.out]
    by_cases hz : Q1 = 0
    · subst hz; rw [if_pos rfl] at hn; subst hn
      simp only [Nat.zero_mul, Nat.zero_add]
      exact .inr (.inr (.inr (.inl ⟨by have := HQ.out; have := HX.out; omega, by have := HQ.out; omega, rfl, hwx⟩)))
    · rw [if_neg hz] at hn; subst hn
      exact .inr (.inr (.inr (.inr ⟨Q0, Q1, rfl, by omega, by have := HQ.out; have := HX.out; omega, HQ.out.2.1, rfl, hwx⟩)))
  have FQ := Lib.hid fq
  have hR : R < 65536 := HQ.out.2.2
  clear fq
  by_cases hz : R = 0
  · subst hz
    go_wp2_with fail
    refine (setWord_nought _).mono ?_
    rintro e w' ⟨rfl, rfl⟩
    go_wp2_with fail
    go_ret2
    exact ⟨_, _, w.heap.size, w.heap.size, rfl, FQ.out _ (new_heap _ _), .inl ⟨eR.out, rfl⟩, Nat.le_refl _, Nat.le_refl _, bl_one _ _⟩
  · have C2 := fun w => Lib.hid (setWord_one R (by omega) w)
    go_wp2_with fail
    refine (C2 _).out.mono ?_
    rintro e w' ⟨rfl, rfl⟩
    go_wp2_with fail
    go_ret2
    refine ⟨_, _, w.heap.size, w.heap.size + 1, rfl, FQ.out _ ?_, .inr ?_, Nat.le_refl _, by omega, bl_two _ _ _⟩
    · exact (old_heap _ _ _ (by simp)).trans (new_heap _ _)
    · rw [eR.out]
      exact ⟨by omega, by omega, rfl, new_heap2 _ _ _⟩

theorem divN (gx x y : Nat) (xv : Value) (hy0 : 0 < y) (hy : y < 18446744073709551616) (hxy : x < 18446744073709551616 ∨ y = 65536) (ky gy : Nat) (hk1 : 1 ≤ ky) (hk2 : ky ≤ 100) (w : World)
    (hx : NatM w gx xv x) (h0 : w.cell? ⟨gy, 0, none⟩ = some (.int .u64 y)) :
    Calls Tryz.prog 46 #[.slice none 0 0, .pointer none, .slice none 0 0, xv, .slice (some ⟨gy, 0, none⟩) 1 ky] w (DivPost w x y) := by
  rcases hx with ⟨rfl, rfl⟩ | ⟨a, b, rfl, d⟩ | ⟨lo, hi, rfl, a, b, c, rfl, d⟩
  · exact div_nil y hy0 ky gy hk1 hk2 w h0
  · exact div_one gx 6 x y a b hy0 hy (.inr rfl) ky gy hk1 hk2 w (cell_row d 0) h0
  · obtain rfl : y = 65536 := by omega
    exact div_two gx lo hi c a b ky gy hk1 hk2 w (cell_row d 0) (cell_row d 1) h0
end Go.Proofs.YtbmjghgiipibnaaGreatDoor
