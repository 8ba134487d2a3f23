/- WALKS of marchlandbig: cmp, Cmp. -/
import Derived.Test.YtbmjghgiipibnaaGreatDoorXE
namespace Go.Proofs.YtbmjghgiipibnaaGreatDoor
open Go.RowKit
set_option linter.unusedVariables false

def cmpZ (x y : Nat) : Int := if x < y then -1 else if x = y then 0 else 1
def Drew (w w' : World) : Prop := ∃ m, w' = w.drewN m
theorem Drew.refl (w : World) : Drew w w := ⟨0, rfl⟩
theorem Drew.step {w w' : World} (h : Drew w w') (n : Nat) : Drew w (w'.drewN n) := by obtain ⟨m, rfl⟩ := h; exact ⟨_, World.drewN_drewN _ _ _⟩
def CmpPost (w : World) (x y : Nat) (e : Ending) (w' : World) : Prop := e = .returned (.int .i64 (cmpZ x y)) ∧ Drew w w'

theorem cmp_shorter (a b : Option Addr) (l c l' c' : Nat) (h : l < l') (h1 : l' ≤ 3) (w : World) : Calls Tryz.prog 58 #[.slice a l c, .slice b l' c'] w fun e w' => e = .returned (.int .i64 (-1)) ∧ w = w' := by
  have hb : ((l : Int) != (l' : Int)) = true := by simp; omega
  go_enter Tryz.func58, Tryz.ntmps58
  go_wp2_with fail
  go_ret
  exact ⟨rfl, rfl⟩
theorem cmp_longer (a b : Option Addr) (l c l' c' : Nat) (h : l' < l) (h1 : l ≤ 3) (w : World) : Calls Tryz.prog 58 #[.slice a l c, .slice b l' c'] w fun e w' => e = .returned (.int .i64 1) ∧ w = w' := by
  have hb : ((l : Int) != (l' : Int)) = true := by simp; omega
  have hd : decide (l < l') = false := by simp; omega
  go_enter Tryz.func58, Tryz.ntmps58
  go_wp2_with fail
  go_ret
  exact ⟨rfl, rfl⟩
theorem cmp_empty (a b : Option Addr) (c c' : Nat) (w : World) : Calls Tryz.prog 58 #[.slice a 0 c, .slice b 0 c'] w fun e w' => e = .returned (.int .i64 0) ∧ w = w' := by
  go_enter Tryz.func58, Tryz.ntmps58
  go_wp2_with fail
  go_rounds 1
  go_ret
  exact ⟨rfl, rfl⟩

theorem cmp_one (g h c c' x y : Nat) (w : World) (h0 : w.cell? ⟨g, 0, none⟩ = some (.int .u32 x)) (h1 : w.cell? ⟨h, 0, none⟩ = some (.int .u32 y)) :
    Calls Tryz.prog 58 #[.slice (some ⟨g, 0, none⟩) 1 c, .slice (some ⟨h, 0, none⟩) 1 c'] w (CmpPost w x y) := by
  rcases Nat.lt_trichotomy x y with hh | rfl | hh
  · have hb : ((x : Int) != (y : Int)) = true := by simp; omega
    have hb' : (x != y) = true := by simp; omega
    have FIN := Lib.hid (show ∀ w', Drew w w' → CmpPost w x y (.returned (.int .i64 (-1))) w' from fun w' hw => ⟨by rw [show cmpZ x y = -1 from if_pos (by omega)], hw⟩)
    go_enter Tryz.func58, Tryz.ntmps58
    go_wp2_with fail
    refine wp_loop_rounds 2 ?_
    rw [rounds_succ]
    go_wp2_with fail
    go_quiet (fail)
    go_wp2_with fail
    go_quiet (fail)
    go_wp2_with fail
    go_ret
    exact FIN.out _ (by first | exact ⟨_, rfl⟩ | (simp only [World.drewN_drewN]; exact ⟨_, rfl⟩))
  · have FIN := Lib.hid (show ∀ w', Drew w w' → CmpPost w x x (.returned (.int .i64 (0))) w' from fun w' hw => ⟨by rw [show cmpZ x x = 0 from (if_neg (by omega)).trans (if_pos rfl)], hw⟩)
    go_enter Tryz.func58, Tryz.ntmps58
    go_wp2_with fail
    refine wp_loop_rounds 2 ?_
    rw [rounds_succ]
    go_wp2_with fail
    go_quiet (fail)
    go_wp2_with fail
    rw [rounds_succ]
    go_wp2_with fail
    go_ret
    exact FIN.out _ (by first | exact ⟨_, rfl⟩ | (simp only [World.drewN_drewN]; exact ⟨_, rfl⟩))
  · have hb : ((x : Int) != (y : Int)) = true := by simp; omega
    have hb' : (x != y) = true := by simp; omega
    have hd : decide (x < y) = false := by simp; omega
    have FIN := Lib.hid (show ∀ w', Drew w w' → CmpPost w x y (.returned (.int .i64 (1))) w' from fun w' hw => ⟨by rw [show cmpZ x y = 1 from (if_neg (by omega)).trans (if_neg (by omega))], hw⟩)
    go_enter Tryz.func58, Tryz.ntmps58
    go_wp2_with fail
    refine wp_loop_rounds 2 ?_
    rw [rounds_succ]
    go_wp2_with fail
    go_quiet (fail)
    go_wp2_with fail
    go_quiet (fail)
    go_wp2_with fail
    go_ret
    exact FIN.out _ (by first | exact ⟨_, rfl⟩ | (simp only [World.drewN_drewN]; exact ⟨_, rfl⟩))
theorem cmp_two (g h c c' lo hi lo' hi' : Nat) (b0 : lo < 4294967296) (b1 : lo' < 4294967296) (w : World) (h0 : w.cell? ⟨g, 0, none⟩ = some (.int .u32 lo)) (h1 : w.cell? ⟨g, 1, none⟩ = some (.int .u32 hi)) (k0 : w.cell? ⟨h, 0, none⟩ = some (.int .u32 lo')) (k1 : w.cell? ⟨h, 1, none⟩ = some (.int .u32 hi')) :
    Calls Tryz.prog 58 #[.slice (some ⟨g, 0, none⟩) 2 c, .slice (some ⟨h, 0, none⟩) 2 c'] w (CmpPost w (hi * 4294967296 + lo) (hi' * 4294967296 + lo')) := by
  rcases Nat.lt_trichotomy hi hi' with hh | rfl | hh
  · have hb : ((hi : Int) != (hi' : Int)) = true := by simp; omega
    have hb' : (hi != hi') = true := by simp; omega
    have FIN := Lib.hid (show ∀ w', Drew w w' → CmpPost w (hi * 4294967296 + lo) (hi' * 4294967296 + lo') (.returned (.int .i64 (-1))) w' from fun w' hw => ⟨by rw [show cmpZ (hi * 4294967296 + lo) (hi' * 4294967296 + lo') = -1 from if_pos (by omega)], hw⟩)
    go_enter Tryz.func58, Tryz.ntmps58
    go_wp2_with fail
    refine wp_loop_rounds 3 ?_
    rw [rounds_succ]
    go_wp2_with fail
    go_quiet (fail)
    go_wp2_with fail
    go_quiet (fail)
    go_wp2_with fail
    go_ret
    exact FIN.out _ (by first | exact ⟨_, rfl⟩ | (simp only [World.drewN_drewN]; exact ⟨_, rfl⟩))
  · rcases Nat.lt_trichotomy lo lo' with hh | rfl | hh
    · have hb : ((lo : Int) != (lo' : Int)) = true := by simp; omega
      have hb' : (lo != lo') = true := by simp; omega
      have FIN := Lib.hid (show ∀ w', Drew w w' → CmpPost w (hi * 4294967296 + lo) (hi * 4294967296 + lo') (.returned (.int .i64 (-1))) w' from fun w' hw => ⟨by rw [show cmpZ (hi * 4294967296 + lo) (hi * 4294967296 + lo') = -1 from if_pos (by omega)], hw⟩)
      go_enter Tryz.func58, Tryz.ntmps58
      go_wp2_with fail
      refine wp_loop_rounds 3 ?_
      rw [rounds_succ]
      go_wp2_with fail
      go_quiet (fail)
      go_wp2_with fail
      rw [rounds_succ]
      go_wp2_with fail
      go_quiet (fail)
      go_wp2_with fail
      go_quiet (fail)
      go_wp2_with fail
      go_ret
      exact FIN.out _ (by first | exact ⟨_, rfl⟩ | (simp only [World.drewN_drewN]; exact ⟨_, rfl⟩))
    · have FIN := Lib.hid (show ∀ w', Drew w w' → CmpPost w (hi * 4294967296 + lo) (hi * 4294967296 + lo) (.returned (.int .i64 (0))) w' from fun w' hw => ⟨by rw [show cmpZ (hi * 4294967296 + lo) (hi * 4294967296 + lo) = 0 from (if_neg (by omega)).trans (if_pos rfl)], hw⟩)
      go_enter Tryz.func58, Tryz.ntmps58
      go_wp2_with fail
      refine wp_loop_rounds 3 ?_
      rw [rounds_succ]
      go_wp2_with fail
      go_quiet (fail)
      go_wp2_with fail
      rw [rounds_succ]
      go_wp2_with fail
      go_quiet (fail)
      go_wp2_with fail
      rw [rounds_succ]
      go_wp2_with fail
      go_ret
      exact FIN.out _ (by first | exact ⟨_, rfl⟩ | (simp only [World.drewN_drewN]; exact ⟨_, rfl⟩))
    · have hb : ((lo : Int) != (lo' : Int)) = true := by simp; omega
      have hb' : (lo != lo') = true := by simp; omega
      have hd : decide (lo < lo') = false := by simp; omega
      have FIN := Lib.hid (show ∀ w', Drew w w' → CmpPost w (hi * 4294967296 + lo) (hi * 4294967296 + lo') (.returned (.int .i64 (1))) w' from fun w' hw => ⟨by rw [show cmpZ (hi * 4294967296 + lo) (hi * 4294967296 + lo') = 1 from (if_neg (by omega)).trans (if_neg (by omega))], hw⟩)
      go_enter Tryz.func58, Tryz.ntmps58
      go_wp2_with fail
      refine wp_loop_rounds 3 ?_
      rw [rounds_succ]
      go_wp2_with fail
      go_quiet (fail)
      go_wp2_with fail
      rw [rounds_succ]
      go_wp2_with fail
      go_quiet (fail)
      go_wp2_with fail
      go_quiet (fail)
      go_wp2_with fail
      go_ret
      exact FIN.out _ (by first | exact ⟨_, rfl⟩ | (simp only [World.drewN_drewN]; exact ⟨_, rfl⟩))
  · have hb : ((hi : Int) != (hi' : Int)) = true := by simp; omega
    have hb' : (hi != hi') = true := by simp; omega
    have hd : decide (hi < hi') = false := by simp; omega
    have FIN := Lib.hid (show ∀ w', Drew w w' → CmpPost w (hi * 4294967296 + lo) (hi' * 4294967296 + lo') (.returned (.int .i64 (1))) w' from fun w' hw => ⟨by rw [show cmpZ (hi * 4294967296 + lo) (hi' * 4294967296 + lo') = 1 from (if_neg (by omega)).trans (if_neg (by omega))], hw⟩)
    go_enter Tryz.func58, Tryz.ntmps58
    go_wp2_with fail
    refine wp_loop_rounds 3 ?_
    rw [rounds_succ]
    go_wp2_with fail
    go_quiet (fail)
    go_wp2_with fail
    go_quiet (fail)
    go_wp2_with fail
    go_ret
    exact FIN.out _ (by first | exact ⟨_, rfl⟩ | (simp only [World.drewN_drewN]; exact ⟨_, rfl⟩))

theorem Drew.heap {w w' : World} (h : Drew w w') : w'.heap = w.heap := by obtain ⟨m, rfl⟩ := h; rfl
theorem Nb.low {w : World} {a : Option Addr} {l c n : Nat} (h : Nb w (.slice a l c) n) : (l = 0 → n = 0) ∧ (l = 1 → 0 < n ∧ n < 4294967296) ∧ (l = 2 → 4294967296 ≤ n ∧ n < 18446744073709551616) ∧ (l = 3 → 18446744073709551616 ≤ n) ∧ l ≤ 3 := by
  rcases h with ⟨h0, _, _, hv⟩ | ⟨_, _, hv, h0, h1, _⟩ | ⟨_, _, lo, hi, hv, h0, h1, h2, h3, _⟩ | ⟨_, _, _, _, _, hv, h0, h1, _⟩
  · cases hv; omega
  · cases hv; omega
  · cases hv; omega
  · cases hv; omega
theorem cmp_any {w : World} {a b : Option Addr} {l c l' c' x y : Nat} (hx : Nb w (.slice a l c) x) (hy : Nb w (.slice b l' c') y) (h : y < 18446744073709551616) :
    Calls Tryz.prog 58 #[.slice a l c, .slice b l' c'] w (CmpPost w x y) := by
  have lx := hx.low
  have ly := hy.low
  rcases Nat.lt_trichotomy l l' with hl | hl | hl
  · refine (cmp_shorter a b l c l' c' hl (by omega) w).mono ?_
    rintro e w' ⟨rfl, rfl⟩
    have hlt : x < y := by omega
    exact ⟨by rw [show cmpZ x y = -1 from if_pos hlt], Drew.refl _⟩
  · rcases hx with ⟨h0, _, _, hv⟩ | ⟨_, _, hv, h0, h1, h2⟩ | ⟨_, _, lo, hi, hv, h0, h1, h2, h3, h4, h5⟩ | ⟨_, _, _, _, _, hv, h0, h1, _⟩
    · cases hv
      subst hl
      obtain rfl := lx.1 rfl
      obtain rfl := ly.1 rfl
      exact (cmp_empty a b c c' w).mono fun e w' ⟨he, hw⟩ => ⟨he, hw ▸ Drew.refl _⟩
    · cases hv
      subst hl
      rcases hy with ⟨k0, _, _, hv⟩ | ⟨_, _, hv, k0, k1, k2⟩ | ⟨_, _, lo, hi, hv, k0, k1, k2, k3, k4, k5⟩ | ⟨_, _, _, _, _, hv, k0, k1, _⟩
      · cases hv
      · cases hv; exact cmp_one _ _ _ _ _ _ w h2 k2
      · cases hv
      · cases hv
    · cases hv
      subst hl
      rcases hy with ⟨k0, _, _, hv⟩ | ⟨_, _, hv, k0, k1, k2⟩ | ⟨_, _, lo, hi, hv, k0, k1, k2, k3, k4, k5⟩ | ⟨_, _, _, _, _, hv, k0, k1, _⟩
      · cases hv
      · cases hv
      · cases hv; subst h0 k0; exact cmp_two _ _ _ _ _ _ _ _ h3 k3 w h4 h5 k4 k5
      · cases hv
    · cases hv
      omega
  · refine (cmp_longer a b l c l' c' hl (by omega) w).mono ?_
    rintro e w' ⟨rfl, rfl⟩
    have hlt : y < x := by omega
    exact ⟨by rw [show cmpZ x y = 1 from (if_neg (by omega)).trans (if_neg (by omega))], Drew.refl _⟩
end Go.Proofs.YtbmjghgiipibnaaGreatDoor
