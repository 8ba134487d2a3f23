/- marchlandbig: where a number of 32-bit words lies; WALKS of trim, words, plain. -/
import Derived.Test.YtbmjghgiipibnaaGreatDoorJ
import Derived.LoopTactic
namespace Go.Proofs.YtbmjghgiipibnaaGreatDoor
open Go.RowKit
set_option linter.unusedVariables false

/-- a slice of words reads as a number of at most three words -/
def Nb (w : World) (v : Value) (n : Nat) : Prop :=
  (n = 0 ∧ ∃ a c, v = .slice a 0 c) ∨
  (∃ g c, v = .slice (some ⟨g, 0, none⟩) 1 c ∧ 0 < n ∧ n < 4294967296 ∧ w.cell? ⟨g, 0, none⟩ = some (.int .u32 n)) ∨
  (∃ g c, ∃ lo hi : Nat, v = .slice (some ⟨g, 0, none⟩) 2 c ∧ n = hi * 4294967296 + lo ∧ 0 < hi ∧ hi < 4294967296 ∧ lo < 4294967296 ∧ w.cell? ⟨g, 0, none⟩ = some (.int .u32 lo) ∧ w.cell? ⟨g, 1, none⟩ = some (.int .u32 hi)) ∨
  (∃ g c, ∃ x0 x1 x2 : Nat, v = .slice (some ⟨g, 0, none⟩) 3 c ∧ n = x2 * 18446744073709551616 + x1 * 4294967296 + x0 ∧ 0 < x2 ∧ x2 < 4294967296 ∧ x1 < 4294967296 ∧ x0 < 4294967296 ∧ w.cell? ⟨g, 0, none⟩ = some (.int .u32 x0) ∧ w.cell? ⟨g, 1, none⟩ = some (.int .u32 x1) ∧ w.cell? ⟨g, 2, none⟩ = some (.int .u32 x2))

theorem Nb.keepC {w w' : World} {v : Value} {n : Nat} (h : Nb w v n) (hc : ∀ g i x, w.cell? ⟨g, i, none⟩ = some (.int .u32 x) → w'.cell? ⟨g, i, none⟩ = some (.int .u32 x)) : Nb w' v n := by
  rcases h with h | ⟨g, c, a, b, d, e⟩ | ⟨g, c, lo, hi, a, b, d, e, f, k, l⟩ | ⟨g, c, x0, x1, x2, a, b, d, e, f, k, l, m, o⟩
  · exact .inl h
  · exact .inr (.inl ⟨g, c, a, b, d, hc _ _ _ e⟩)
  · exact .inr (.inr (.inl ⟨g, c, lo, hi, a, b, d, e, f, hc _ _ _ k, hc _ _ _ l⟩))
  · exact .inr (.inr (.inr ⟨g, c, x0, x1, x2, a, b, d, e, f, k, hc _ _ _ l, hc _ _ _ m, hc _ _ _ o⟩))
theorem Nb.below {w w' : World} {v : Value} {n : Nat} (h : Nb w v n) (hb : Below w.heap.size w w') : Nb w' v n :=
  h.keepC fun g i x hx => (hb.cell (p := ⟨g, i, none⟩) (lt_of_cell hx)).trans hx
theorem Nb.slice {w : World} {v : Value} {n : Nat} (h : Nb w v n) : ∃ a l c, v = .slice a l c := by
  rcases h with ⟨_, _, _, h⟩ | ⟨_, _, h, _⟩ | ⟨_, _, _, _, h, _⟩ | ⟨_, _, _, _, _, h, _⟩ <;> exact ⟨_, _, _, h⟩
theorem Nb.len {w : World} {a : Option Addr} {l c n : Nat} (h : Nb w (.slice a l c) n) : (0 < n ↔ 0 < l) := by
  rcases h with ⟨h0, _, _, h⟩ | ⟨_, _, h, h0, _⟩ | ⟨_, _, _, _, h, h0, h1, _⟩ | ⟨_, _, _, _, _, h, h0, h1, _⟩ <;> cases h <;> omega

/-- a number is given back, nothing is written -/
def NbRet (w : World) (n : Nat) (e : Ending) (w' : World) : Prop := ∃ a l c, e = .returned (.slice a l c) ∧ Nb w (.slice a l c) n ∧ w = w'
/-- a number is given back, memory is made -/
def NbNew (w : World) (n : Nat) (e : Ending) (w' : World) : Prop := ∃ a l c, e = .returned (.slice a l c) ∧ Nb w' (.slice a l c) n ∧ Below w.heap.size w w'
theorem NbRet.new {w0 w : World} {n : Nat} {e : Ending} {w' : World} (h : NbRet w n e w') (hb : Below w0.heap.size w0 w) : NbNew w0 n e w' := by
  obtain ⟨a, l, c, he, hn, rfl⟩ := h; exact ⟨a, l, c, he, hn, hb⟩

def TrimPost (g cap len : Nat) (l : Nat → Nat) (w : World) (e : Ending) (w' : World) : Prop :=
  ∃ n, n ≤ len ∧ (∀ i, n ≤ i → i < len → l i = 0) ∧ (0 < n → l (n - 1) ≠ 0) ∧ e = .returned (.slice (some ⟨g, 0, none⟩) n cap) ∧ w = w'

theorem trim_any (g cap len : Nat) (l : Nat → Nat) (h1 : len ≤ cap) (h2 : cap ≤ 100) (w : World) (hc : ∀ i, i < len → w.cell? ⟨g, i, none⟩ = some (.int .u32 (l i))) :
    Calls Tryz.prog 52 #[.slice (some ⟨g, 0, none⟩) len cap] w (TrimPost g cap len l w) := by
  have HC := Lib.hid hc
  clear hc
  go_enter Tryz.func52, Tryz.ntmps52
  go_wp2_with fail
  go_loop [3] (fun n => ∃ k : Nat, k ≤ len ∧ n = .int .i64 k ∧ ∀ i, k ≤ i → i < len → l i = 0) (fun n => (intOf n).toNat)
  case atStart => exact ⟨len, Nat.le_refl _, rfl, fun i h h' => by omega⟩
  case round =>
    obtain ⟨k, hk, rfl, hz⟩ := hrel
    have HZ := Lib.hid hz
    clear hz
    by_cases h0 : k = 0
    · subst h0
      go_wp2_with fail
      go_ret
      exact ⟨0, Nat.zero_le _, HZ.out, fun h => absurd h (by omega), rfl, rfl⟩
    · obtain ⟨m, rfl⟩ : ∃ m, k = m + 1 := ⟨k - 1, by omega⟩
      have hcell := HC.out m (by omega)
      by_cases hl : l m = 0
      · rw [hl] at hcell
        have HL := Lib.hid hl
        clear hl h0
        go_wp2_with fail
        go_round
        case rel => exact ⟨m, by omega, by go_num, fun i hi hi' => by
          by_cases e : i = m
          · subst e; exact HL.out
          · exact HZ.out i (by omega) hi'⟩
        case measure => simp [intOf]
      · have hb : ((l m : Int) == 0) = false := by rw [beq_eq_false_iff_ne]; omega
        have HL := Lib.hid hl
        clear hl h0
        go_wp2_with fail
        go_ret
        exact ⟨m + 1, hk, HZ.out, fun _ => HL.out, rfl, rfl⟩
end Go.Proofs.YtbmjghgiipibnaaGreatDoor
