/- WALKS of math/big's nat: add of one word and one, cmp, sub, as (*Int).Sub meets them; low64. -/
import Derived.Test.YtbmjghgiipibnaaGreatDoorJ
import Derived.Deep.QuietTactic
import Derived.BigQuiet
namespace Go.Proofs.YtbmjghgiipibnaaGreatDoor
open Go.RowKit
set_option linter.unusedVariables false

theorem twin_addVV (args : Array Value) (w : World) : (callFunc 83 args).run Tryz.prog w = .ok (.enter 23 args) w :=
  run_callFunc_twin (twin := "math/big.addVV_g") Tryz.func83 (by kernel_rfl) (by kernel_rfl) (by kernel_rfl) (by kernel_rfl) Tryz.func23 (by kernel_rfl) (by kernel_rfl) (by kernel_rfl) args w

/-- addVV_g over one word. -/
theorem addVV_g_any (g h k cg ch ck x y s : Nat) (a1 : 1 ≤ cg) (a2 : cg ≤ 100) (b1 : 1 ≤ ch) (b2 : ch ≤ 100) (d1 : 1 ≤ ck) (d2 : ck ≤ 100) (hs : x + y = s) (hlt : s < 18446744073709551616) (w : World) (v : Value)
    (h0 : w.cell? ⟨h, 0, none⟩ = some (.int .u64 x)) (k0 : w.cell? ⟨k, 0, none⟩ = some (.int .u64 y)) (g0 : w.cell? ⟨g, 0, none⟩ = some v) (hf : w.frozen? ⟨g, 0, none⟩ = false) :
    Calls Tryz.prog 23 #[.slice (some ⟨g, 0, none⟩) 1 cg, .slice (some ⟨h, 0, none⟩) 1 ch, .slice (some ⟨k, 0, none⟩) 1 ck] w fun e w' =>
      e = .returned (.int .u64 0) ∧ ∃ n, w' = (w.setCell ⟨g, 0, none⟩ (.int .u64 (s : Int))).drewN n := by
  have C := Lib.hid (fun W => add_any x y 0 s 0 (by omega) (by omega) hlt W)
  clear hs hlt
  go_enter Tryz.func23, Tryz.ntmps23
  go_wp2_with fail
  refine wp_loop_rounds 2 ?_
  rw [rounds_succ]
  go_wp2_with fail
  go_quiet ((go_at_call 85; exact Calls.quiet_of_same ((C.out _).mono fun e w' h => ⟨h.1, h.2.symm⟩)))
  go_wp2_with fail
  rw [rounds_succ]
  go_wp2_with fail
  go_ret
  exact ⟨rfl, _, rfl⟩

theorem cmp_nil (a : Addr) (k : Nat) (w : World) : Calls Tryz.prog 48 #[.slice none 0 0, .slice (some a) 1 k] w fun e w' => e = .returned (.int .i64 (-1)) ∧ w = w' := by
  go_enter Tryz.func48, Tryz.ntmps48
  go_wp2_with fail
  go_ret
  exact ⟨rfl, rfl⟩

theorem cmp_zero (a b : Addr) (k l : Nat) (w : World) : Calls Tryz.prog 48 #[.slice (some b) 0 l, .slice (some a) 1 k] w fun e w' => e = .returned (.int .i64 (-1)) ∧ w = w' := by
  go_enter Tryz.func48, Tryz.ntmps48
  go_wp2_with fail
  go_ret
  exact ⟨rfl, rfl⟩

theorem sub_nil (h k x : Nat) (hk1 : 1 ≤ k) (hk2 : k ≤ 100) (w : World) (h0 : w.cell? ⟨h, 0, none⟩ = some (.int .u64 x)) :
    Calls Tryz.prog 49 #[.slice none 0 0, .slice (some ⟨h, 0, none⟩) 1 k, .slice none 0 0] w fun e w' => e = .returned (.slice (some ⟨w.heap.size, 0, none⟩) 1 1) ∧ w.alloc (.cells #[.int .u64 x] 50) = w' := by
  go_enter Tryz.func49, Tryz.ntmps49
  go_wp2_with fail
  refine (set_one h k x hk1 hk2 _ h0).mono ?_
  rintro e w' ⟨rfl, rfl⟩
  go_wp2_with fail
  go_ret
  exact ⟨rfl, rfl⟩

theorem sub_zero (g h k x : Nat) (hk1 : 1 ≤ k) (hk2 : k ≤ 100) (v : Value) (w : World) (h0 : w.cell? ⟨h, 0, none⟩ = some (.int .u64 x)) (hg : w.heap[g]? = some (.cells #[v] 50 (0, 0))) :
    Calls Tryz.prog 49 #[.slice (some ⟨g, 0, none⟩) 0 1, .slice (some ⟨h, 0, none⟩) 1 k, .slice (some ⟨g, 0, none⟩) 0 1] w fun e w' => e = .returned (.slice (some ⟨g, 0, none⟩) 1 1) ∧ w.setRow g #[.int .u64 x] = w' := by
  have HG := Lib.hid hg
  clear hg
  go_enter Tryz.func49, Tryz.ntmps49
  go_wp2_with fail
  refine (set_into g h k x hk1 hk2 v _ h0 HG.out).mono ?_
  rintro e w' ⟨rfl, rfl⟩
  go_wp2_with fail
  go_ret
  exact ⟨rfl, rfl⟩

theorem low64_nil (w : World) : Calls Tryz.prog 50 #[.slice none 0 0] w fun e w' => e = .returned (.int .u64 0) ∧ w = w' := by
  go_enter Tryz.func50, Tryz.ntmps50
  go_wp2_with fail
  go_ret
  exact ⟨rfl, rfl⟩
theorem low64_zero (a : Addr) (k : Nat) (w : World) : Calls Tryz.prog 50 #[.slice (some a) 0 k] w fun e w' => e = .returned (.int .u64 0) ∧ w = w' := by
  go_enter Tryz.func50, Tryz.ntmps50
  go_wp2_with fail
  go_ret
  exact ⟨rfl, rfl⟩
theorem low64_one (g k x : Nat) (w : World) (h0 : w.cell? ⟨g, 0, none⟩ = some (.int .u64 x)) : Calls Tryz.prog 50 #[.slice (some ⟨g, 0, none⟩) 1 k] w fun e w' => e = .returned (.int .u64 x) ∧ w = w' := by
  go_enter Tryz.func50, Tryz.ntmps50
  go_wp2_with fail
  go_ret
  exact ⟨rfl, rfl⟩

/-- one word of a row of one, and one: into a new row -/
theorem add_one1 (gz gy n : Nat) (hn : n + 1 < 18446744073709551616) (w : World) (hz : w.cell? ⟨gz, 0, none⟩ = some (.int .u64 n)) (hy : w.cell? ⟨gy, 0, none⟩ = some (.int .u64 1)) :
    Calls Tryz.prog 47 #[.slice (some ⟨gz, 0, none⟩) 1 1, .slice (some ⟨gz, 0, none⟩) 1 1, .slice (some ⟨gy, 0, none⟩) 1 1] w fun e w' =>
      e = .returned (.slice (some ⟨w.heap.size, 0, none⟩) 1 6) ∧ ∃ m, w' = (w.alloc (.cells #[.int .u64 ((n + 1 : Nat) : Int), .int .u64 0, .int .u64 0, .int .u64 0, .int .u64 0, .int .u64 0] 50)).drewN m := by
  obtain ⟨s, hs⟩ : ∃ s, n + 1 = s := ⟨_, rfl⟩
  rw [hs]
  have hpos : 0 < s := by omega
  have C1 := fun w => Lib.hid (make_two (some ⟨gz, 0, none⟩) 1 1 (by omega) w)
  have C2 := Lib.hid (fun g => addVV_g_any g gz gy 6 1 1 n 1 s (by omega) (by omega) (by omega) (by omega) (by omega) (by omega) hs (by omega))
  have ht := twin_addVV
  clear hs hn
  go_enter Tryz.func47, Tryz.ntmps47
  go_wp2_with fail
  refine (C1 _).out.mono ?_
  rintro e w' ⟨rfl, rfl⟩
  go_wp2_with fail
  go_region_with (go_at_call 23; refine (C2.out _ _ (.int .u64 0) (by exact cell_al hz _) (by exact cell_al hy _) (by simp) (by simp)).mono ?_; rintro e w1 ⟨rfl, m, rfl⟩)
  go_wp2_with fail
  have e1 : ∀ k, (((w.alloc (.cells #[.int .u64 (s : Int), .int .u64 0, .int .u64 0, .int .u64 0, .int .u64 0, .int .u64 0] 50)).drewN k).setCell ⟨w.heap.size, 1, none⟩ (.int .u64 0)) =
      (w.alloc (.cells #[.int .u64 (s : Int), .int .u64 0, .int .u64 0, .int .u64 0, .int .u64 0, .int .u64 0] 50)).drewN k := fun k => by
    show ((w.alloc _).setCell _ _).drewN k = _
    rw [World.setCell_alloc_new]; rfl
  rw [e1]
  refine (norm_two_one _ 6 s (by omega) (by omega) hpos _ (by simp) (by simp)).mono ?_
  rintro e w' ⟨rfl, rfl⟩
  go_wp2_with fail
  go_ret
  exact ⟨rfl, _, rfl⟩

/-- one word of a row of six, and one: in place -/
theorem add_one6 (gz gy n : Nat) (hn : n + 1 < 18446744073709551616) (w : World) (v1 : Value) (hne : gz ≠ gy) (hz : w.cell? ⟨gz, 0, none⟩ = some (.int .u64 n)) (hz1 : w.cell? ⟨gz, 1, none⟩ = some v1) (f0 : w.frozen? ⟨gz, 0, none⟩ = false) (f1 : w.frozen? ⟨gz, 1, none⟩ = false) (hy : w.cell? ⟨gy, 0, none⟩ = some (.int .u64 1)) :
    Calls Tryz.prog 47 #[.slice (some ⟨gz, 0, none⟩) 1 6, .slice (some ⟨gz, 0, none⟩) 1 6, .slice (some ⟨gy, 0, none⟩) 1 1] w fun e w' =>
      e = .returned (.slice (some ⟨gz, 0, none⟩) 1 6) ∧ ∃ m, w' = ((w.setCell ⟨gz, 0, none⟩ (.int .u64 ((n + 1 : Nat) : Int))).setCell ⟨gz, 1, none⟩ (.int .u64 0)).drewN m := by
  obtain ⟨s, hs⟩ : ∃ s, n + 1 = s := ⟨_, rfl⟩
  rw [hs]
  have hpos : 0 < s := by omega
  have C1 := fun w => Lib.hid (make_fits ⟨gz, 0, none⟩ 1 6 2 (by omega) (by omega) w)
  have C2 := Lib.hid (fun g => addVV_g_any g gz gy 6 6 1 n 1 s (by omega) (by omega) (by omega) (by omega) (by omega) (by omega) hs (by omega))
  have ht := twin_addVV
  clear hs hn
  go_enter Tryz.func47, Tryz.ntmps47
  go_wp2_with fail
  refine (C1 _).out.mono ?_
  rintro e w' ⟨rfl, rfl⟩
  go_wp2_with fail
  go_region_with (go_at_call 23; refine (C2.out _ _ _ (by exact hz) (by exact hy) (by exact hz) (by exact f0)).mono ?_; rintro e w1 ⟨rfl, m, rfl⟩)
  go_wp2_with fail
  have q0 : ((w.setCell ⟨gz, 0, none⟩ (.int .u64 (s : Int))).setCell ⟨gz, 1, none⟩ (.int .u64 0)).cell? ⟨gz, 0, none⟩ = some (.int .u64 (s : Int)) := (World.cell?_setCell_other _ _ _ _ (by simp)).trans (World.cell?_setCell_same _ _ _ hz)
  have q1 : ((w.setCell ⟨gz, 0, none⟩ (.int .u64 (s : Int))).setCell ⟨gz, 1, none⟩ (.int .u64 0)).cell? ⟨gz, 1, none⟩ = some (.int .u64 0) := World.cell?_setCell_same _ _ _ ((World.cell?_setCell_other _ _ _ _ (by simp)).trans hz1)
  refine (norm_two_one _ 6 s (by omega) (by omega) hpos _ (by exact q0) (by exact q1)).mono ?_
  rintro e w' ⟨rfl, rfl⟩
  go_wp2_with fail
  go_ret
  exact ⟨rfl, _, rfl⟩
end Go.Proofs.YtbmjghgiipibnaaGreatDoor
