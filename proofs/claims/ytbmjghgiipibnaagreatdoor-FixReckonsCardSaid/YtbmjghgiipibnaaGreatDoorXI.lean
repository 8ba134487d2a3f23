/- WALKS of marchlandbig: mul, add, sub over numbers; small by 65536. -/
import Derived.Test.YtbmjghgiipibnaaGreatDoorXH
namespace Go.Proofs.YtbmjghgiipibnaaGreatDoor
open Go.RowKit
set_option linter.unusedVariables false

/-- the top word of a number of two words, below 2^48 -/
theorem top_small {n hi lo : Nat} (hn : n = hi * 4294967296 + lo) (h : n < 281474976710656) : hi < 65536 := by omega

theorem mulB {w : World} {a b : Option Addr} {l c l' c' x y : Nat} (hx : Nb w (.slice a l c) x) (hy : Nb w (.slice b l' c') y) (bx : x < 281474976710656) (bY : y < 281474976710656) :
    Calls Tryz.prog 37 #[.slice a l c, .slice b l' c'] w (NbNew w (x * y)) := by
  rcases hx with ⟨rfl, _, _, hv⟩ | ⟨_, _, hv, h0, h1, h2⟩ | ⟨_, _, lo, hi, hv, h0, h1, h2, h3, h4, h5⟩ | ⟨_, _, _, _, _, hv, h0, h1, _⟩
  · cases hv
    refine (mulw_nil1 a b c l' c' w).mono ?_
    rintro e w' ⟨he, rfl⟩
    exact ⟨_, _, _, he, .inl ⟨by simp, _, _, rfl⟩, Below.refl _ _⟩
  · cases hv
    rcases hy with ⟨rfl, _, _, hv⟩ | ⟨_, _, hv, k0, k1, k2⟩ | ⟨_, _, lo', hi', hv, k0, k1, k2, k3, k4, k5⟩ | ⟨_, _, _, _, _, hv, k0, k1, _⟩
    · cases hv
      refine (mulw_nil2 _ _ _ _ _ (by omega) (by omega) w).mono ?_
      rintro e w' ⟨he, rfl⟩
      exact ⟨_, _, _, he, .inl ⟨by simp, _, _, rfl⟩, Below.refl _ _⟩
    · cases hv; exact mulw_11 _ _ _ _ _ _ h1 k1 w h2 k2
    · cases hv; subst k0; exact mulw_12 _ _ _ _ _ _ _ h1 k3 k2 w h2 k4 k5
    · omega
  · cases hv
    have t := top_small h0 bx
    subst h0
    rcases hy with ⟨rfl, _, _, hv⟩ | ⟨_, _, hv, k0, k1, k2⟩ | ⟨_, _, lo', hi', hv, k0, k1, k2, k3, k4, k5⟩ | ⟨_, _, _, _, _, hv, k0, k1, _⟩
    · cases hv
      refine (mulw_nil2 _ _ _ _ _ (by omega) (by omega) w).mono ?_
      rintro e w' ⟨he, rfl⟩
      exact ⟨_, _, _, he, .inl ⟨by simp, _, _, rfl⟩, Below.refl _ _⟩
    · cases hv; exact mulw_21 _ _ _ _ _ _ _ h3 h2 k1 w h4 h5 k2
    · cases hv
      have t' := top_small k0 bY
      subst k0
      exact mulw_22 _ _ _ _ _ _ _ _ h3 h2 k3 k2 t t' w h4 h5 k4 k5
    · omega
  · omega

theorem addB {w : World} {a b : Option Addr} {l c l' c' x y : Nat} (hx : Nb w (.slice a l c) x) (hy : Nb w (.slice b l' c') y) (x0 : 0 < x) (bx : x < 18446744073709551616) (y0 : 0 < y) (bY : y < 4294967296) :
    Calls Tryz.prog 123 #[.slice a l c, .slice b l' c'] w (NbNew w (x + y)) := by
  rcases hy with ⟨rfl, _, _, hv⟩ | ⟨_, _, hv, k0, k1, k2⟩ | ⟨_, _, lo', hi', hv, k0, k1, k2, k3, k4, k5⟩ | ⟨_, _, _, _, _, hv, k0, k1, _⟩
  · omega
  · cases hv
    rcases hx with ⟨rfl, _, _, hv⟩ | ⟨_, _, hv, h0, h1, h2⟩ | ⟨_, _, lo, hi, hv, h0, h1, h2, h3, h4, h5⟩ | ⟨_, _, _, _, _, hv, h0, h1, _⟩
    · omega
    · cases hv; exact addw_11 _ _ _ _ _ _ h1 k1 w h2 k2
    · cases hv; subst h0; exact addw_21 _ _ _ _ _ _ _ h3 h2 k1 w h4 h5 k2
    · omega
  · omega
  · omega

theorem subB {w : World} {a b : Option Addr} {l c l' c' x y : Nat} (hx : Nb w (.slice a l c) x) (hy : Nb w (.slice b l' c') y) (hlt : y < x) (bx : x < 18446744073709551616) :
    Calls Tryz.prog 124 #[.slice a l c, .slice b l' c'] w (NbNew w (x - y)) := by
  rcases hx with ⟨rfl, _, _, hv⟩ | ⟨_, _, hv, h0, h1, h2⟩ | ⟨_, _, lo, hi, hv, h0, h1, h2, h3, h4, h5⟩ | ⟨_, _, _, _, _, hv, h0, h1, _⟩
  · omega
  · cases hv
    rcases hy with ⟨rfl, _, _, hv⟩ | ⟨_, _, hv, k0, k1, k2⟩ | ⟨_, _, lo', hi', hv, k0, k1, k2, k3, k4, k5⟩ | ⟨_, _, _, _, _, hv, k0, k1, _⟩
    · cases hv; exact subw_10 _ 0 _ _ _ _ h1 w h2
    · cases hv; exact subw_11 _ _ _ _ _ _ none h1 k1 (by omega) w h2 k2
    · omega
    · omega
  · cases hv
    rcases hy with ⟨rfl, _, _, hv⟩ | ⟨_, _, hv, k0, k1, k2⟩ | ⟨_, _, lo', hi', hv, k0, k1, k2, k3, k4, k5⟩ | ⟨_, _, _, _, _, hv, k0, k1, _⟩
    · cases hv; subst h0; exact subw_20 _ 0 _ _ _ _ _ h3 h2 w h4 h5
    · cases hv
      subst h0
      by_cases hc : lo < y
      · exact subw_21b _ _ _ _ _ _ _ none h3 h2 k1 hc (by omega) w h4 h5 k2
      · exact subw_21 _ _ _ _ _ _ _ none h3 h2 k1 (by omega) w h4 h5 k2
    · cases hv
      subst h0 k0
      by_cases hc : lo < lo'
      · exact subw_22b _ _ _ _ _ _ _ _ none h3 h2 k3 k2 hc (by omega) w h4 h5 k4 k5
      · exact subw_22 _ _ _ _ _ _ _ _ none h3 h2 k3 k2 (by omega) (by omega) w h4 h5 k4 k5
    · omega
  · omega
end Go.Proofs.YtbmjghgiipibnaaGreatDoor
