/- WALK of fix.down: a quotient, rounded down. -/
import Derived.Test.YtbmjghgiipibnaaGreatDoorO
namespace Go.Proofs.YtbmjghgiipibnaaGreatDoor
open Go.RowKit
set_option linter.unusedVariables false

theorem below_of_upd2 {z r B : Nat} {w w1 w2 : World} (hb : Below B w w1) (hu : Upd2 z r w1 w2) (hz : B ≤ z) (hr : B ≤ r) (hB : B ≤ w1.heap.size) : Below B w w2 :=
  hb.trans ⟨hu.os, hu.tape, hu.output, hu.size, fun k hk => hu.block k (by omega) (by omega) (by omega)⟩

/-- two new Ints -/
theorem two_new (w : World) : St ((w.alloc (.cells #[.bool false, .slice none 0 0] 38)).alloc (.cells #[.bool false, .slice none 0 0] 38)) w.heap.size false (.slice none 0 0) ∧
    St ((w.alloc (.cells #[.bool false, .slice none 0 0] 38)).alloc (.cells #[.bool false, .slice none 0 0] 38)) (w.heap.size + 1) false (.slice none 0 0) ∧
    (∀ k, k < w.heap.size → ((w.alloc (.cells #[.bool false, .slice none 0 0] 38)).alloc (.cells #[.bool false, .slice none 0 0] 38)).heap[k]? = w.heap[k]?) :=
  ⟨(old_heap _ _ _ (by simp)).trans (new_heap _ _), new_heap2 _ _ _, fun k hk => (old_heap _ _ _ (by simp; omega)).trans (old_heap _ _ _ hk)⟩

theorem row_lt {w : World} {g : Nat} {o : Obj} (h : w.heap[g]? = some o) : g < w.heap.size := (Array.getElem?_eq_some_iff.1 h).1
theorem NatM.keep' {w w' : World} {g : Nat} {v : Value} {n : Nat} (h : NatM w g v n) (hg : ∀ k, k < w.heap.size → w'.heap[k]? = w.heap[k]?) : NatM w' g v n := by
  rcases h with h | h | h
  · exact .inl h
  · exact .inr (.inl (h.keep (hg _ (row_lt h.2.2.2))))
  · obtain ⟨lo, hi, a, b, c, d, e, f⟩ := h
    exact .inr (.inr ⟨lo, hi, a, b, c, d, e, (hg _ (row_lt f)).trans f⟩)

theorem NatQ.move {w w' : World} {g : Nat} {v : Value} {n : Nat} (h : NatQ w g v n) (hg : ∀ k, k < w.heap.size → w'.heap[k]? = w.heap[k]?) (G : Nat) : ∃ g', NatQ w' g' v n ∧ ((g' = g ∧ g < w.heap.size) ∨ g' = G) := by
  rcases h with h | h | h | h | h
  · exact ⟨G, .inl h, .inr rfl⟩
  · exact ⟨g, .inr (.inl (h.keep (hg _ (row_lt h.2.2)))), .inl ⟨rfl, row_lt h.2.2⟩⟩
  · exact ⟨g, .inr (.inr (.inl (h.keep (hg _ (row_lt h.2.2.2))))), .inl ⟨rfl, row_lt h.2.2.2⟩⟩
  · exact ⟨g, .inr (.inr (.inr (.inl (h.keep (hg _ (row_lt h.2.2.2)))))), .inl ⟨rfl, row_lt h.2.2.2⟩⟩
  · have h' := h
    obtain ⟨lo, hi, a, b, c, d, e, f⟩ := h
    exact ⟨g, .inr (.inr (.inr (.inr (h'.keep (hg _ (row_lt f)))))), .inl ⟨rfl, row_lt f⟩⟩

theorem sign_val (p g n : Nat) (neg : Bool) (v : Value) (w : World) (hp : St w p neg v) (nn : NatN w g v n) :
    Calls Tryz.prog 31 #[.pointer (some ⟨p, 0, none⟩)] w fun e w' => e = .returned (.int .i64 (if n = 0 then 0 else if neg then -1 else 1)) ∧ w = w' := by
  by_cases h : n = 0
  · subst h; rw [if_pos rfl]; exact sign_nought p g neg v w hp nn
  · rw [if_neg h]; exact sign_some p g n neg v w hp nn (by omega)

theorem sign_cells (p g : Nat) (neg : Bool) (w : World) (c1 : w.cell? ⟨p, 1, none⟩ = some (.slice (some ⟨g, 0, none⟩) 1 1)) (c0 : w.cell? ⟨p, 0, none⟩ = some (.bool neg)) :
    Calls Tryz.prog 31 #[.pointer (some ⟨p, 0, none⟩)] w fun e w' => e = .returned (.int .i64 (if neg then -1 else 1)) ∧ w = w' := by
  cases neg
  all_goals
    go_enter Tryz.func31, Tryz.ntmps31
    go_wp2_with fail
    go_ret
    exact ⟨rfl, rfl⟩

theorem newOne (w : World) : Calls Tryz.prog 15 #[.int .i64 1] w fun e w' => ∃ p g, e = .returned (.pointer (some ⟨p, 0, none⟩)) ∧ St w' p false (.slice (some ⟨g, 0, none⟩) 1 1) ∧ w'.heap[g]? = some (.cells #[.int .u64 1] 50 (0, 0)) ∧ w.heap.size ≤ p ∧ w.heap.size ≤ g ∧ Below w.heap.size w w' := by
  refine (newInt 1 (by omega) (by omega) w).mono ?_
  rintro e w' ⟨p, g, v, rfl, s, n, hp, hg, _, _, hB⟩
  rcases n with ⟨h, _⟩ | ⟨_, _, rfl, n⟩
  · simp at h
  · exact ⟨p, g, rfl, s, n, hp, hg, hB⟩

def downZ (xn yn : Bool) (n d : Nat) : Int := if xn != yn then (if n % d = 0 then -((n / d : Nat) : Int) else -((n / d : Nat) : Int) - 1) else ((n / d : Nat) : Int)

set_option maxRecDepth 100000 in
set_option maxHeartbeats 4000000 in
theorem down_any (px py gx gy d n : Nat) (xn yn : Bool) (xv : Value) (w : World) (hx : St w px xn xv) (hy : St w py yn (.slice (some ⟨gy, 0, none⟩) 1 1)) (nx : NatM w gx xv n) (ny : w.heap[gy]? = some (.cells #[.int .u64 d] 50 (0, 0)))
    (hd0 : 0 < d) (hd1 : d < 18446744073709551616) (hnd : n < 18446744073709551616 ∨ d = 65536) (hT : 0 < n % d → n / d + 1 < 18446744073709551616) (hne : px ≠ py) :
    Calls Tryz.prog 16 #[.pointer (some ⟨px, 0, none⟩), .pointer (some ⟨py, 0, none⟩)] w fun e w' => e = downV (downZ xn yn n d) ∧ Below w.heap.size w w' := by
  have sx : px < w.heap.size := row_lt hx
  have sy : py < w.heap.size := row_lt hy
  have sg : gy < w.heap.size := row_lt ny
  obtain ⟨t1, t2, t3⟩ := two_new w
  have QR := Lib.hid (quoRem w.heap.size px py (w.heap.size + 1) gx gy 1 xn yn xv n d _ t1 t2 ((t3 px sx).trans hx) ((t3 py sy).trans hy) (by omega) (by omega) (nx.keep' t3) (cell_row ((t3 gy sg).trans ny) 0) hd0 hd1 hnd (by omega) (by omega) (by omega) (by omega) (by omega))
  have HY := Lib.hid ((t3 py sy).trans hy)
  have HG := Lib.hid ((t3 gy sg).trans ny)
  have HT := Lib.hid hT
  clear hx hy nx ny t1 t2 t3 hnd hT hd1
  go_enter Tryz.func16, Tryz.ntmps16
  go_wp2_with fail
  refine QR.out.mono ?_
  rintro e w3 ⟨qv, rv, gq, gr, rfl, sq, sr, nq, nr, g1, g2, hu⟩
  have hrn : n % d < d := Nat.mod_lt _ hd0
  have S1 := sign_val (w.heap.size + 1) gr (n % d) _ rv w3 sr nr
  have sy3 : St w3 py yn (.slice (some ⟨gy, 0, none⟩) 1 1) := (hu.block py (by simp; omega) (by omega) (by omega)).trans HY.out
  have ny3 : w3.heap[gy]? = some (.cells #[.int .u64 d] 50 (0, 0)) ∨ True := .inr trivial
  have S2 : Calls Tryz.prog 31 #[.pointer (some ⟨py, 0, none⟩)] w3 fun e w' => e = .returned (.int .i64 (if yn then -1 else 1)) ∧ w3 = w' := by
    have c1 : w3.cell? ⟨py, 1, none⟩ = some (.slice (some ⟨gy, 0, none⟩) 1 1) := cell_row sy3 1
    have c0 : w3.cell? ⟨py, 0, none⟩ = some (.bool yn) := cell_row sy3 0
    exact sign_cells py gy yn w3 c1 c0
  have hz3 : w.heap.size + 2 ≤ w3.heap.size := by have := hu.size; simp at this; omega
  have B3 : Below w.heap.size w w3 := below_of_upd2 (bl_two w _ _) hu (Nat.le_refl _) (by omega) (by simp; omega)
  have hT1 := HT.out
  have hcase : (downZ xn yn n d = (if (decide (0 < n / d) && (xn != yn)) then -((n / d : Nat) : Int) else ((n / d : Nat) : Int)) ∧
      (((if n % d = 0 then (0 : Int) else if (decide (0 < n % d) && xn) then -1 else 1) = 0 ∧ ((if yn then (-1 : Int) else 1) = 1 ∨ (if yn then (-1 : Int) else 1) = -1)) ∨
       ((if n % d = 0 then (0 : Int) else if (decide (0 < n % d) && xn) then -1 else 1) = 1 ∧ (if yn then (-1 : Int) else 1) = 1) ∨
       ((if n % d = 0 then (0 : Int) else if (decide (0 < n % d) && xn) then -1 else 1) = -1 ∧ (if yn then (-1 : Int) else 1) = -1))) ∨
     ((downZ xn yn n d = -((n / d : Nat) : Int) - 1 ∧ n / d + 1 < 18446744073709551616 ∧ (decide (0 < n / d) && (xn != yn)) = decide (0 < n / d)) ∧
      (((if n % d = 0 then (0 : Int) else if (decide (0 < n % d) && xn) then -1 else 1) = 1 ∧ (if yn then (-1 : Int) else 1) = -1) ∨
       ((if n % d = 0 then (0 : Int) else if (decide (0 < n % d) && xn) then -1 else 1) = -1 ∧ (if yn then (-1 : Int) else 1) = 1))) := by
    unfold downZ
    generalize n / d = T at hT1 ⊢
    by_cases hr : n % d = 0
    · left
      refine ⟨?_, .inl ⟨by rw [if_pos hr], by cases yn <;> simp⟩⟩
      rw [if_pos hr]
      cases xn <;> cases yn <;> simp
      all_goals by_cases ht : 0 < T
      all_goals (first | (simp [ht]; done) | (simp [ht]; omega) | omega)
    · have hr' : 0 < n % d := by omega
      have hT2 := hT1 hr'
      cases xn <;> cases yn
      · left; simp [hr]
      · right; simp [hr, hr']; omega
      · right; simp [hr, hr']; omega
      · left; simp [hr, hr']
  clear hT1 HT
  rcases hcase with ⟨hz, h⟩ | ⟨⟨hz, h1, h2⟩, h⟩
  · have DT := down_tail w.heap.size gq (n / d) _ qv w3 sq nq _ hz
    have B4 := Lib.hid B3
    clear B3 hz sq sr nq nr sy3 HY HG hu
    rcases h with ⟨ha, hb | hb⟩ | ⟨ha, hb⟩ | ⟨ha, hb⟩
    all_goals
      rw [ha] at S1
      rw [hb] at S2
      clear ha hb
      replace S1 := Lib.hid S1
      replace S2 := Lib.hid S2
      go_wp2_with fail
      refine S1.out.mono ?_
      rintro e w4 ⟨rfl, rfl⟩
      go_wp2_with fail
      refine S2.out.mono ?_
      rintro e w4 ⟨rfl, rfl⟩
      rcases DT with ⟨hf, D1⟩ | ⟨hf, D1, x, D2, D3⟩ | ⟨hf, D1, D2, D3⟩
      · replace hf := Lib.hid hf
        replace D1 := Lib.hid D1
        go_wp2_with fail
        refine D1.out.mono ?_
        rintro e w4 ⟨rfl, rfl⟩
        go_wp2_with fail
        go_ret2
        exact ⟨by rw [downV, if_neg hf.out]; rfl, B4.out⟩
      · replace hf := Lib.hid hf
        replace D1 := Lib.hid D1
        replace D2 := Lib.hid D2
        replace D3 := Lib.hid D3
        go_wp2_with fail
        refine D1.out.mono ?_
        rintro e w4 ⟨rfl, rfl⟩
        go_wp2_with fail
        refine D2.out.mono ?_
        rintro e w4 ⟨rfl, rfl⟩
        go_wp2_with fail
        refine D3.out.mono ?_
        rintro e w4 ⟨rfl, rfl⟩
        go_wp2_with fail
        go_ret2
        exact ⟨by rw [downV, if_neg hf.out]; rfl, B4.out⟩
      · replace hf := Lib.hid hf
        replace D1 := Lib.hid D1
        replace D2 := Lib.hid D2
        replace D3 := Lib.hid D3
        go_wp2_with fail
        refine D1.out.mono ?_
        rintro e w4 ⟨rfl, rfl⟩
        go_wp2_with fail
        refine D2.out.mono ?_
        rintro e w4 ⟨rfl, rfl⟩
        go_wp2_with fail
        refine D3.out.mono ?_
        rintro e w4 ⟨rfl, rfl⟩
        go_wp2_with fail
        refine D2.out.mono ?_
        rintro e w4 ⟨rfl, rfl⟩
        go_wp2_with fail
        go_ret2
        exact ⟨by rw [downV, if_pos hf.out]; rfl, B4.out⟩
  · have B4 := Lib.hid B3
    have SQ := Lib.hid sq
    have NQ := Lib.hid nq
    have HZ := Lib.hid hz
    have H1 := Lib.hid h1
    have H2 := Lib.hid h2
    have G1 := Lib.hid g1
    clear B3 hz sq sr nq nr sy3 HY HG hu h1 h2 g1 g2
    rcases h with ⟨ha, hb⟩ | ⟨ha, hb⟩
    all_goals
      rw [ha] at S1
      rw [hb] at S2
      clear ha hb
      replace S1 := Lib.hid S1
      replace S2 := Lib.hid S2
      go_wp2_with fail
      refine S1.out.mono ?_
      rintro e w4 ⟨rfl, rfl⟩
      go_wp2_with fail
      refine S2.out.mono ?_
      rintro e w4 ⟨rfl, rfl⟩
      go_wp2_with fail
      refine (newOne w3).mono ?_
      rintro e w4 ⟨p1, f1, rfl, s1, n1, hp1, hf1, hB⟩
      have hB' := Lib.hid hB
      have s1' := Lib.hid s1
      have n1' := Lib.hid n1
      clear hB s1 n1
      go_wp2_with fail
      have g1' := G1.out
      simp at g1'
      obtain ⟨g', nq', hg'⟩ := NQ.out.move hB'.out.block (w4.heap.size + 7)
      have sz4 := hB'.out.size
      have sp := row_lt s1'.out
      have sf := row_lt n1'.out
      refine (sub_one w.heap.size p1 g' f1 (n / d) qv w4 ?_ nq' H1.out s1'.out n1'.out (by omega) (by omega) (by omega) (by omega)).mono ?_
      · have := SQ.out
        rw [H2.out] at this
        exact (hB'.out.block _ (by omega)).trans this
      rintro e w5 ⟨v', g'', rfl, s5, n5, _, hu5⟩
      have DT := down_tail w.heap.size g'' (n / d + 1) true v' w5 s5 n5 (downZ xn yn n d) (by rw [HZ.out]; simp; omega)
      have B5 := Lib.hid (below_of_upd2 (B4.out.trans (hB'.out.mono (by omega))) hu5 (Nat.le_refl _) (by omega) (by omega))
      clear s5 n5 hu5 nq'
      rcases DT with ⟨hf, D1⟩ | ⟨hf, D1, x, D2, D3⟩ | ⟨hf, D1, D2, D3⟩
      · replace hf := Lib.hid hf
        replace D1 := Lib.hid D1
        go_wp2_with fail
        refine D1.out.mono ?_
        rintro e w4 ⟨rfl, rfl⟩
        go_wp2_with fail
        go_ret2
        exact ⟨by rw [downV, if_neg hf.out]; rfl, B5.out⟩
      · replace hf := Lib.hid hf
        replace D1 := Lib.hid D1
        replace D2 := Lib.hid D2
        replace D3 := Lib.hid D3
        go_wp2_with fail
        refine D1.out.mono ?_
        rintro e w4 ⟨rfl, rfl⟩
        go_wp2_with fail
        refine D2.out.mono ?_
        rintro e w4 ⟨rfl, rfl⟩
        go_wp2_with fail
        refine D3.out.mono ?_
        rintro e w4 ⟨rfl, rfl⟩
        go_wp2_with fail
        go_ret2
        exact ⟨by rw [downV, if_neg hf.out]; rfl, B5.out⟩
      · replace hf := Lib.hid hf
        replace D1 := Lib.hid D1
        replace D2 := Lib.hid D2
        replace D3 := Lib.hid D3
        go_wp2_with fail
        refine D1.out.mono ?_
        rintro e w4 ⟨rfl, rfl⟩
        go_wp2_with fail
        refine D2.out.mono ?_
        rintro e w4 ⟨rfl, rfl⟩
        go_wp2_with fail
        refine D3.out.mono ?_
        rintro e w4 ⟨rfl, rfl⟩
        go_wp2_with fail
        refine D2.out.mono ?_
        rintro e w4 ⟨rfl, rfl⟩
        go_wp2_with fail
        go_ret2
        exact ⟨by rw [downV, if_pos hf.out]; rfl, B5.out⟩
end Go.Proofs.YtbmjghgiipibnaaGreatDoor
