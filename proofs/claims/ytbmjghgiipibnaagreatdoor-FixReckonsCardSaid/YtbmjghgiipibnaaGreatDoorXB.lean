/- WALKS of marchlandbig: trim at each length, words, plain. -/
import Derived.Test.YtbmjghgiipibnaaGreatDoorXA
import Derived.Laws.BitsAllLaws
namespace Go.Proofs.YtbmjghgiipibnaaGreatDoor
open Go.RowKit
set_option linter.unusedVariables false

theorem trim1 (g cap x0 : Nat) (h1 : 1 ≤ cap) (h2 : cap ≤ 100) (b0 : x0 < 4294967296) (w : World) (c0 : w.cell? ⟨g, 0, none⟩ = some (.int .u32 x0)) :
    Calls Tryz.prog 52 #[.slice (some ⟨g, 0, none⟩) 1 cap] w (NbRet w x0) := by
  refine (trim_any g cap 1 (fun i => [x0].getD i 0) h1 h2 w fun i hi => by obtain rfl : i = 0 := by omega
                                                                           exact c0).mono ?_
  rintro e w' ⟨n, hn, hz, hp, he, rfl⟩
  refine ⟨_, _, _, he, ?_, rfl⟩
  have hn' : n = 0 ∨ n = 1 := by omega
  rcases hn' with rfl | rfl
  · have := hz 0 (by omega) (by omega); simp at this; subst this; exact .inl ⟨rfl, _, _, rfl⟩
  · have := hp (by omega); simp at this; exact .inr (.inl ⟨g, _, rfl, by omega, b0, c0⟩)

theorem trim2 (g cap x0 x1 n : Nat) (h1 : 2 ≤ cap) (h2 : cap ≤ 100) (b0 : x0 < 4294967296) (b1 : x1 < 4294967296) (hn : n = x1 * 4294967296 + x0) (w : World) (c0 : w.cell? ⟨g, 0, none⟩ = some (.int .u32 x0)) (c1 : w.cell? ⟨g, 1, none⟩ = some (.int .u32 x1)) :
    Calls Tryz.prog 52 #[.slice (some ⟨g, 0, none⟩) 2 cap] w (NbRet w n) := by
  refine (trim_any g cap 2 (fun i => [x0, x1].getD i 0) h1 h2 w fun i hi => ?_).mono ?_
  · have hi' : i = 0 ∨ i = 1 := by omega
    rcases hi' with rfl | rfl
    · exact c0
    · exact c1
  rintro e w' ⟨m, hm, hz, hp, he, rfl⟩
  refine ⟨_, _, _, he, ?_, rfl⟩
  have hm' : m = 0 ∨ m = 1 ∨ m = 2 := by omega
  rcases hm' with rfl | rfl | rfl
  · have h0 := hz 0 (by omega) (by omega); have h1 := hz 1 (by omega) (by omega); simp at h0 h1; exact .inl ⟨by omega, _, _, rfl⟩
  · have h0 := hp (by omega); have h1 := hz 1 (by omega) (by omega); simp at h0 h1
    obtain rfl : n = x0 := by omega
    exact .inr (.inl ⟨g, _, rfl, by omega, b0, c0⟩)
  · have h0 := hp (by omega); simp at h0
    exact .inr (.inr (.inl ⟨g, _, x0, x1, rfl, hn, by omega, b1, b0, c0, c1⟩))

set_option maxRecDepth 100000 in
theorem trim3 (g cap x0 x1 x2 n : Nat) (h1 : 3 ≤ cap) (h2 : cap ≤ 100) (b0 : x0 < 4294967296) (b1 : x1 < 4294967296) (b2 : x2 < 4294967296) (hn : n = x2 * 18446744073709551616 + x1 * 4294967296 + x0) (w : World)
    (c0 : w.cell? ⟨g, 0, none⟩ = some (.int .u32 x0)) (c1 : w.cell? ⟨g, 1, none⟩ = some (.int .u32 x1)) (c2 : w.cell? ⟨g, 2, none⟩ = some (.int .u32 x2)) :
    Calls Tryz.prog 52 #[.slice (some ⟨g, 0, none⟩) 3 cap] w (NbRet w n) := by
  refine (trim_any g cap 3 (fun i => [x0, x1, x2].getD i 0) h1 h2 w fun i hi => ?_).mono ?_
  · have hi' : i = 0 ∨ i = 1 ∨ i = 2 := by omega
    rcases hi' with rfl | rfl | rfl
    · exact c0
    · exact c1
    · exact c2
  rintro e w' ⟨m, hm, hz, hp, he, rfl⟩
  refine ⟨_, _, _, he, ?_, rfl⟩
  have hm' : m = 0 ∨ m = 1 ∨ m = 2 ∨ m = 3 := by omega
  rcases hm' with rfl | rfl | rfl | rfl
  · have h0 := hz 0 (by omega) (by omega); have h1 := hz 1 (by omega) (by omega); have h2 := hz 2 (by omega) (by omega); simp at h0 h1 h2; exact .inl ⟨by rw [hn, h0, h1, h2], _, _, rfl⟩
  · have h0 := hp (by omega); have h1 := hz 1 (by omega) (by omega); have h2 := hz 2 (by omega) (by omega); simp at h0 h1 h2
    obtain rfl : n = x0 := by rw [hn, h2, h1, Nat.zero_mul, Nat.zero_add]
    exact .inr (.inl ⟨g, _, rfl, by omega, b0, c0⟩)
  · have h0 := hp (by omega); have h2 := hz 2 (by omega) (by omega); simp at h0 h2
    exact .inr (.inr (.inl ⟨g, _, x0, x1, rfl, by rw [hn, h2, Nat.zero_mul, Nat.zero_add], by omega, b1, b0, c0, c1⟩))
  · have h0 := hp (by omega); simp at h0
    exact .inr (.inr (.inr ⟨g, _, x0, x1, x2, rfl, hn, by omega, b2, b1, b0, c0, c1, c2⟩))

set_option maxRecDepth 100000 in
theorem trim4 (g cap x0 x1 x2 n : Nat) (h1 : 4 ≤ cap) (h2 : cap ≤ 100) (b0 : x0 < 4294967296) (b1 : x1 < 4294967296) (b2 : x2 < 4294967296) (hn : n = x2 * 18446744073709551616 + x1 * 4294967296 + x0) (w : World)
    (c0 : w.cell? ⟨g, 0, none⟩ = some (.int .u32 x0)) (c1 : w.cell? ⟨g, 1, none⟩ = some (.int .u32 x1)) (c2 : w.cell? ⟨g, 2, none⟩ = some (.int .u32 x2)) (c3 : w.cell? ⟨g, 3, none⟩ = some (.int .u32 0)) :
    Calls Tryz.prog 52 #[.slice (some ⟨g, 0, none⟩) 4 cap] w (NbRet w n) := by
  refine (trim_any g cap 4 (fun i => [x0, x1, x2, 0].getD i 0) h1 h2 w fun i hi => ?_).mono ?_
  · have hi' : i = 0 ∨ i = 1 ∨ i = 2 ∨ i = 3 := by omega
    rcases hi' with rfl | rfl | rfl | rfl
    · exact c0
    · exact c1
    · exact c2
    · exact c3
  rintro e w' ⟨m, hm, hz, hp, he, rfl⟩
  refine ⟨_, _, _, he, ?_, rfl⟩
  have hm' : m = 0 ∨ m = 1 ∨ m = 2 ∨ m = 3 ∨ m = 4 := by omega
  rcases hm' with rfl | rfl | rfl | rfl | rfl
  · have h0 := hz 0 (by omega) (by omega); have h1 := hz 1 (by omega) (by omega); have h2 := hz 2 (by omega) (by omega); simp at h0 h1 h2; exact .inl ⟨by rw [hn, h0, h1, h2], _, _, rfl⟩
  · have h0 := hp (by omega); have h1 := hz 1 (by omega) (by omega); have h2 := hz 2 (by omega) (by omega); simp at h0 h1 h2
    obtain rfl : n = x0 := by rw [hn, h2, h1, Nat.zero_mul, Nat.zero_add]
    exact .inr (.inl ⟨g, _, rfl, by omega, b0, c0⟩)
  · have h0 := hp (by omega); have h2 := hz 2 (by omega) (by omega); simp at h0 h2
    exact .inr (.inr (.inl ⟨g, _, x0, x1, rfl, by rw [hn, h2, Nat.zero_mul, Nat.zero_add], by omega, b1, b0, c0, c1⟩))
  · have h0 := hp (by omega); simp at h0
    exact .inr (.inr (.inr ⟨g, _, x0, x1, x2, rfl, hn, by omega, b2, b1, b0, c0, c1, c2⟩))
  · have h0 := hp (by omega); simp at h0

theorem words_any (u : Nat) (h : u < 18446744073709551616) (w : World) : Calls Tryz.prog 89 #[.int .u64 u] w (NbNew w u) := by
  obtain ⟨lo, hlo⟩ : ∃ lo, lo = u % 4294967296 := ⟨_, rfl⟩
  obtain ⟨hi, hhi⟩ : ∃ hi, hi = u / 4294967296 := ⟨_, rfl⟩
  have e1 : IntKind.u32.wrap (u : Int) = (lo : Int) := by rw [IntKind.wrap_u32]; omega
  have e2 : IntKind.u32.wrap ((u : Int) / 4294967296) = (hi : Int) := by rw [IntKind.wrap_u32]; omega
  have T := fun g w => Lib.hid (trim2 g 2 lo hi u (by omega) (by omega) (by omega) (by omega) (by omega) w)
  clear hlo hhi
  go_enter Tryz.func89, Tryz.ntmps89
  go_wp2_with fail
  refine ((T _ _).out (by simp) (by simp)).mono ?_
  rintro e w' ⟨a, l, c, rfl, hn, rfl⟩
  replace hn := Lib.hid hn
  go_wp2_with fail
  go_ret
  exact ⟨a, l, c, rfl, hn.out, bl_one _ _⟩

theorem plain_nil (a : Option Addr) (c : Nat) (w : World) : Calls Tryz.prog 118 #[.slice a 0 c] w fun e w' => e = .returned (.int .u64 0) ∧ w = w' := by
  go_enter Tryz.func118, Tryz.ntmps118
  go_wp2_with fail
  go_ret
  exact ⟨rfl, rfl⟩
theorem plain_one (g c x : Nat) (hx : x < 4294967296) (w : World) (h0 : w.cell? ⟨g, 0, none⟩ = some (.int .u32 x)) : Calls Tryz.prog 118 #[.slice (some ⟨g, 0, none⟩) 1 c] w fun e w' => e = .returned (.int .u64 x) ∧ w = w' := by
  go_enter Tryz.func118, Tryz.ntmps118
  go_wp2_with fail
  go_ret
  exact ⟨rfl, rfl⟩
theorem or_words (lo hi : Nat) (h0 : lo < 4294967296) (h1 : hi < 4294967296) : bits .or .u64 (lo : Int) ((hi : Int) * 4294967296) = ((hi * 4294967296 + lo : Nat) : Int) := by
  have e1 : ((hi : Int) * 4294967296) = ((hi * 4294967296 : Nat) : Int) := by omega
  rw [e1, u64_or_nat _ _ (by omega) (by omega), Nat.or_comm, nat_join 32 _ _ (by omega) (by omega)]
theorem plain_two (g c lo hi : Nat) (h0 : lo < 4294967296) (h1 : hi < 4294967296) (w : World) (c0 : w.cell? ⟨g, 0, none⟩ = some (.int .u32 lo)) (c1 : w.cell? ⟨g, 1, none⟩ = some (.int .u32 hi)) :
    Calls Tryz.prog 118 #[.slice (some ⟨g, 0, none⟩) 2 c] w fun e w' => e = .returned (.int .u64 (hi * 4294967296 + lo : Nat)) ∧ w = w' := by
  have ho := or_words lo hi h0 h1
  go_enter Tryz.func118, Tryz.ntmps118
  go_wp2_with fail
  go_ret
  exact ⟨rfl, rfl⟩
theorem plain_any {w : World} {v : Value} {n : Nat} (h : Nb w v n) (hn : n < 18446744073709551616) : Calls Tryz.prog 118 #[v] w fun e w' => e = .returned (.int .u64 n) ∧ w = w' := by
  rcases h with ⟨rfl, a, c, rfl⟩ | ⟨g, c, rfl, b, d, e⟩ | ⟨g, c, lo, hi, rfl, rfl, d, e, f, k, l⟩ | ⟨g, c, x0, x1, x2, a, b, d, e, f, k, l, m, o⟩
  · exact plain_nil _ _ _
  · exact plain_one _ _ _ d _ e
  · exact plain_two _ _ _ _ f e _ k l
  · omega
end Go.Proofs.YtbmjghgiipibnaaGreatDoor
