/- WALK of math/big's (*Int).QuoRem. -/
import Derived.Test.YtbmjghgiipibnaaGreatDoorJ
import Derived.Deep.RegionHeld3
namespace Go.Proofs.YtbmjghgiipibnaaGreatDoor
open Go.RowKit
set_option linter.unusedVariables false
set_option linter.unusedSimpArgs false

/-- all blocks but two are as they were -/
structure Upd2 (z r : Nat) (w w' : World) : Prop where
  os : w'.os = w.os
  tape : w'.tape = w.tape
  output : w'.output = w.output
  size : w.heap.size ≤ w'.heap.size
  block : ∀ k, k < w.heap.size → k ≠ z → k ≠ r → w'.heap[k]? = w.heap[k]?

theorem Upd2.of_below {z r : Nat} {w w' : World} (h : Below w.heap.size w w') : Upd2 z r w w' := ⟨h.os, h.tape, h.output, h.size, fun k hk _ _ => h.block k hk⟩
theorem Upd2.setCell1 {z r : Nat} {w w' : World} (h : Upd2 z r w w') (i : Nat) (v : Value) : Upd2 z r w (w'.setCell ⟨z, i, none⟩ v) :=
  ⟨h.os, h.tape, h.output, by simpa [World.setCell] using h.size, fun k hk hz hr => (Below.heap_setCell _ _ _ _ hz).trans (h.block k hk hz hr)⟩
theorem Upd2.setCell2 {z r : Nat} {w w' : World} (h : Upd2 z r w w') (i : Nat) (v : Value) : Upd2 z r w (w'.setCell ⟨r, i, none⟩ v) :=
  ⟨h.os, h.tape, h.output, by simpa [World.setCell] using h.size, fun k hk hz hr => (Below.heap_setCell _ _ _ _ hr).trans (h.block k hk hz hr)⟩
theorem Upd2.drew {z r : Nat} {w w' : World} (h : Upd2 z r w w') : Upd2 z r w w'.drew := ⟨h.os, h.tape, h.output, h.size, h.block⟩
theorem Upd2.drewN {z r : Nat} {w w' : World} (h : Upd2 z r w w') (n : Nat) : Upd2 z r w (w'.drewN n) := ⟨h.os, h.tape, h.output, h.size, h.block⟩

theorem st_far {w : World} {p q : Nat} {b : Bool} {u : Value} (h : St w p b u) (hq : p ≠ q) (i : Nat) (v : Value) : St (w.setCell ⟨q, i, none⟩ v) p b u :=
  (Below.heap_setCell _ _ _ _ (show p ≠ q from hq)).trans h

def DivPostS (w : World) (n y : Nat) (e : Ending) (w' : World) : Prop :=
  ∃ a l c a' l' c' gq gr, e = .returned (.tuple #[.slice a l c, .slice a' l' c']) ∧ NatQ w' gq (.slice a l c) (n / y) ∧ NatN w' gr (.slice a' l' c') (n % y) ∧ w.heap.size ≤ gq ∧ w.heap.size ≤ gr ∧ Below w.heap.size w w'
theorem DivPost.s {w : World} {n y : Nat} {e : Ending} {w' : World} (h : DivPost w n y e w') : DivPostS w n y e w' := by
  obtain ⟨qv, rv, gq, gr, he, hq, hr, h1, h2, h3⟩ := h
  obtain ⟨a, l, c, rfl⟩ := hq.slice
  obtain ⟨a', l', c', rfl⟩ := hr.slice
  exact ⟨a, l, c, a', l', c', gq, gr, he, hq, hr, h1, h2, h3⟩

theorem NatN.len {w : World} {g n : Nat} {a : Option Addr} {l c : Nat} (h : NatN w g (.slice a l c) n) : (0 < n → 0 < l) ∧ (n = 0 → l = 0) := by
  rcases h with ⟨rfl, h⟩ | ⟨h0, _, h, _⟩
  · cases h; omega
  · cases h; omega
theorem NatQ.len {w : World} {g n : Nat} {a : Option Addr} {l c : Nat} (h : NatQ w g (.slice a l c) n) : (0 < n → 0 < l) ∧ (n = 0 → l = 0) := by
  rcases h with ⟨rfl, h⟩ | ⟨rfl, h, _⟩ | ⟨h0, _, h, _⟩ | ⟨h0, _, h, _⟩ | ⟨lo, hi, rfl, h0, _, _, h, _⟩
  · cases h; omega
  · cases h; omega
  · cases h; omega
  · cases h; omega
  · cases h; omega

/-- behind 'z.abs, r.abs = z.abs.div(..)' -/
def CutQR (w : World) (pz pr n y : Nat) (wx : World) : Prop :=
  ∃ a l c a' l' c' gq gr, NatQ wx gq (.slice a l c) (n / y) ∧ NatN wx gr (.slice a' l' c') (n % y) ∧ w.heap.size ≤ gq ∧ w.heap.size ≤ gr ∧ Upd2 pz pr w wx ∧ St wx pz false (.slice a l c) ∧ St wx pr false (.slice a' l' c')

theorem cutQR_of {w w1 : World} {pz pr n y gq gr : Nat} {a : Option Addr} {l c : Nat} {a' : Option Addr} {l' c' : Nat} (hz : St w pz false (.slice none 0 0)) (hr : St w pr false (.slice none 0 0)) (hp : pz < w.heap.size) (hp' : pr < w.heap.size) (hne : pz ≠ pr)
    (nq : NatQ w1 gq (.slice a l c) (n / y)) (nr : NatN w1 gr (.slice a' l' c') (n % y)) (h1 : w.heap.size ≤ gq) (h2 : w.heap.size ≤ gr) (hb : Below w.heap.size w w1) :
    CutQR w pz pr n y ((w1.setCell ⟨pz, 1, none⟩ (.slice a l c)).setCell ⟨pr, 1, none⟩ (.slice a' l' c')) ∧
    CutQR w pz pr n y ((w1.setCell ⟨pr, 1, none⟩ (.slice a' l' c')).setCell ⟨pz, 1, none⟩ (.slice a l c)) := by
  have z1 : St w1 pz false (.slice none 0 0) := (hb.block pz hp).trans hz
  have r1 : St w1 pr false (.slice none 0 0) := (hb.block pr hp').trans hr
  refine ⟨⟨a, l, c, a', l', c', gq, gr, ?_, ?_, h1, h2, ?_, ?_, ?_⟩, ⟨a, l, c, a', l', c', gq, gr, ?_, ?_, h1, h2, ?_, ?_, ?_⟩⟩
  · exact nq.keep ((Below.heap_setCell _ _ _ _ (show gq ≠ pr by omega)).trans (Below.heap_setCell _ _ _ _ (show gq ≠ pz by omega)))
  · exact nr.keep ((Below.heap_setCell _ _ _ _ (show gr ≠ pr by omega)).trans (Below.heap_setCell _ _ _ _ (show gr ≠ pz by omega)))
  · exact ((Upd2.of_below hb).setCell1 1 _).setCell2 1 _
  · exact st_far (st_set1 z1 _) hne _ _
  · exact st_set1 (st_far r1 (Ne.symm hne) _ _) _
  · exact nq.keep ((Below.heap_setCell _ _ _ _ (show gq ≠ pz by omega)).trans (Below.heap_setCell _ _ _ _ (show gq ≠ pr by omega)))
  · exact nr.keep ((Below.heap_setCell _ _ _ _ (show gr ≠ pz by omega)).trans (Below.heap_setCell _ _ _ _ (show gr ≠ pr by omega)))
  · exact ((Upd2.of_below hb).setCell2 1 _).setCell1 1 _
  · exact st_set1 (st_far z1 hne _ _) _
  · exact st_far (st_set1 r1 _) (Ne.symm hne) _ _

theorem qr_end {w wc : World} {pz pr gq gr Q R x y : Nat} {xn yn bq br : Bool} {v v' : Value} (n : Nat) (eQ : Q = x / y) (eR : R = x % y) (hs : St wc pz false v) (hs' : St wc pr false v') (nq : NatQ wc gq v Q) (nr : NatN wc gr v' R)
    (hg : w.heap.size ≤ gq ∧ w.heap.size ≤ gr) (hu : Upd2 pz pr w wc) (hp : pz < w.heap.size) (hp' : pr < w.heap.size) (hne : pz ≠ pr) (e1 : (decide (0 < Q) && (xn != yn)) = bq) (e2 : (decide (0 < R) && xn) = br) :
    ∃ qv rv gq gr, Ending.returned (.tuple #[.pointer (some ⟨pz, 0, none⟩), .pointer (some ⟨pr, 0, none⟩)]) = .returned (.tuple #[.pointer (some ⟨pz, 0, none⟩), .pointer (some ⟨pr, 0, none⟩)]) ∧
      St (((wc.setCell ⟨pz, 0, none⟩ (.bool bq)).setCell ⟨pr, 0, none⟩ (.bool br)).drewN n) pz (decide (0 < x / y) && (xn != yn)) qv ∧ St (((wc.setCell ⟨pz, 0, none⟩ (.bool bq)).setCell ⟨pr, 0, none⟩ (.bool br)).drewN n) pr (decide (0 < x % y) && xn) rv ∧
      NatQ (((wc.setCell ⟨pz, 0, none⟩ (.bool bq)).setCell ⟨pr, 0, none⟩ (.bool br)).drewN n) gq qv (x / y) ∧ NatN (((wc.setCell ⟨pz, 0, none⟩ (.bool bq)).setCell ⟨pr, 0, none⟩ (.bool br)).drewN n) gr rv (x % y) ∧ w.heap.size ≤ gq ∧ w.heap.size ≤ gr ∧
      Upd2 pz pr w (((wc.setCell ⟨pz, 0, none⟩ (.bool bq)).setCell ⟨pr, 0, none⟩ (.bool br)).drewN n) := by
  subst eQ eR
  rw [e1, e2]
  refine ⟨v, v', gq, gr, rfl, ?_, ?_, nq.keep ?_, nr.keep ?_, hg.1, hg.2, ((hu.setCell1 0 _).setCell2 0 _).drewN n⟩
  · exact st_far (st_set0 hs _) hne _ _
  · exact st_set0 (st_far hs' (Ne.symm hne) _ _) _
  · exact (Below.heap_setCell _ _ _ _ (show gq ≠ pr by omega)).trans (Below.heap_setCell _ _ _ _ (show gq ≠ pz by omega))
  · exact (Below.heap_setCell _ _ _ _ (show gr ≠ pr by omega)).trans (Below.heap_setCell _ _ _ _ (show gr ≠ pz by omega))

def QRPost (w : World) (pz pr : Nat) (xn yn : Bool) (x y : Nat) (e : Ending) (w' : World) : Prop :=
  ∃ qv rv gq gr, e = .returned (.tuple #[.pointer (some ⟨pz, 0, none⟩), .pointer (some ⟨pr, 0, none⟩)]) ∧ St w' pz (decide (0 < x / y) && (xn != yn)) qv ∧ St w' pr (decide (0 < x % y) && xn) rv ∧ NatQ w' gq qv (x / y) ∧ NatN w' gr rv (x % y) ∧ w.heap.size ≤ gq ∧ w.heap.size ≤ gr ∧ Upd2 pz pr w w'

/-- 'wpAnyH_take', the operation's slot written out -/
theorem wpAnyH_takeD {P : Program} {ops : Array Oper} {Q : Exit → Act → World → Prop} {md : Region.Mode} {S : World → Prop} {fuel : Nat} {listed : Array Bool} {ts : Array Value} {ds : List Deferred} {w : World} {oi : Oper} (i d : Nat) (v : Value)
    (hi : ops[i]? = some oi) (hd : oi.dst = some d) (hs : Region.noSelect ops = true) (hf : Region.free md ops listed i = true) (hr : (Region.ready md ops listed).contains i = true)
    (hQ : ∀ c a w, Q (.panic c) (a.put oi.dst v) w → Q (.panic c) a w) (hy : YieldsIf P ops S oi v ⟨ts, ds⟩) (hS : S w)
    (h : wpAnyH P md ops Q S fuel (listed.setIfInBounds i true) ⟨ts.setIfInBounds d v, ds⟩ w) : wpAnyH P md ops Q S (fuel + 1) listed ⟨ts, ds⟩ w :=
  wpAnyH_take hi hs hf hr hQ hy hS (by rw [hd]; exact h)

/-- the cells that the signs' statement reads, behind a store of a sign -/
theorem keep_signs {W : World} {pz pr px py : Nat} {a b c d : Value} (h1 : pz ≠ pr) (h2 : pz ≠ px) (h3 : pz ≠ py) (h4 : pr ≠ px) (h5 : pr ≠ py) (z : Nat) (hz : z = pz ∨ z = pr) (v : Value)
    (h : W.cell? ⟨pz, 1, none⟩ = some a ∧ W.cell? ⟨pr, 1, none⟩ = some b ∧ W.cell? ⟨px, 0, none⟩ = some c ∧ W.cell? ⟨py, 0, none⟩ = some d) :
    (W.setCell ⟨z, 0, none⟩ v).cell? ⟨pz, 1, none⟩ = some a ∧ (W.setCell ⟨z, 0, none⟩ v).cell? ⟨pr, 1, none⟩ = some b ∧ (W.setCell ⟨z, 0, none⟩ v).cell? ⟨px, 0, none⟩ = some c ∧ (W.setCell ⟨z, 0, none⟩ v).cell? ⟨py, 0, none⟩ = some d := by
  obtain ⟨e1, e2, e3, e4⟩ := h
  have far : ∀ (q i : Nat), ¬ (z = q ∧ i = 0) → (W.setCell ⟨z, 0, none⟩ v).cell? ⟨q, i, none⟩ = W.cell? ⟨q, i, none⟩ := fun q i hq =>
    World.cell?_setCell_other _ _ _ _ (by intro e; cases e; exact hq ⟨rfl, rfl⟩)
  exact ⟨(far _ _ (by omega)).trans e1, (far _ _ (by omega)).trans e2, (far _ _ (by omega)).trans e3, (far _ _ (by omega)).trans e4⟩

set_option maxRecDepth 100000 in
set_option maxHeartbeats 40000000 in
theorem quoRem (pz px py pr gx gy ky : Nat) (xn yn : Bool) (xv : Value) (x y : Nat) (w : World) (hz : St w pz false (.slice none 0 0)) (hr : St w pr false (.slice none 0 0)) (hx : St w px xn xv) (hy : St w py yn (.slice (some ⟨gy, 0, none⟩) 1 ky))
    (hk1 : 1 ≤ ky) (hk2 : ky ≤ 100) (nx : NatM w gx xv x) (ny : w.cell? ⟨gy, 0, none⟩ = some (.int .u64 y)) (hy0 : 0 < y) (hy1 : y < 18446744073709551616) (hxy : x < 18446744073709551616 ∨ y = 65536)
    (h1 : pz ≠ pr) (h2 : pz ≠ px) (h3 : pz ≠ py) (h4 : pr ≠ px) (h5 : pr ≠ py) :
    Calls Tryz.prog 30 #[.pointer (some ⟨pz, 0, none⟩), .pointer (some ⟨px, 0, none⟩), .pointer (some ⟨py, 0, none⟩), .pointer (some ⟨pr, 0, none⟩)] w (QRPost w pz pr xn yn x y) := by
  have cz0 : w.cell? ⟨pz, 0, none⟩ = some (.bool false) := cell_row hz 0
  have cz1 : w.cell? ⟨pz, 1, none⟩ = some (.slice none 0 0) := cell_row hz 1
  have cr0 : w.cell? ⟨pr, 0, none⟩ = some (.bool false) := cell_row hr 0
  have cr1 : w.cell? ⟨pr, 1, none⟩ = some (.slice none 0 0) := cell_row hr 1
  have cx0 : w.cell? ⟨px, 0, none⟩ = some (.bool xn) := cell_row hx 0
  have cx1 : w.cell? ⟨px, 1, none⟩ = some xv := cell_row hx 1
  have cy0 : w.cell? ⟨py, 0, none⟩ = some (.bool yn) := cell_row hy 0
  have cy1 : w.cell? ⟨py, 1, none⟩ = some (.slice (some ⟨gy, 0, none⟩) 1 ky) := cell_row hy 1
  have fz1 : w.frozen? ⟨pz, 1, none⟩ = false := frozen_row hz 1
  have fr1 : w.frozen? ⟨pr, 1, none⟩ = false := frozen_row hr 1
  have sz := lt_of_cell cz0
  have sr := lt_of_cell cr0
  have sx := lt_of_cell cx0
  have sy := lt_of_cell cy0
  have C := Lib.hid (fun (W : World) (h : W.heap = w.heap) => (divN gx x y xv hy0 hy1 hxy ky gy hk1 hk2 W (nx.keep (by rw [h])) ((World.cell?_of_block (w := w) (by rw [h])).trans ny)).mono fun _ _ => DivPost.s)
  have HZ := Lib.hid hz
  have HR := Lib.hid hr
  clear hz hx hy hr nx ny hxy
  go_enter Tryz.func30, Tryz.ntmps30
  go_upto_region 1 with fail
  go_cut [] (fun wx => CutQR w pz pr x y wx)
  case first =>
    go_region_with (go_at_call 46; refine (C.out _ (by rfl)).mono ?_; rintro e w1 ⟨sa, sl, sc, sa', sl', sc', gq, gr, rfl, nq, nr, g1, g2, hb⟩; have q1 : w1.cell? ⟨pz, 1, none⟩ = some (.slice none 0 0) := (hb.cell (p := ⟨pz, 1, none⟩) sz).trans cz1; have q2 : w1.cell? ⟨pr, 1, none⟩ = some (.slice none 0 0) := (hb.cell (p := ⟨pr, 1, none⟩) sr).trans cr1; have q3 : w1.frozen? ⟨pz, 1, none⟩ = false := (hb.frozen (p := ⟨pz, 1, none⟩) sz).trans fz1; have q4 : w1.frozen? ⟨pr, 1, none⟩ = false := (hb.frozen (p := ⟨pr, 1, none⟩) sr).trans fr1; have q5 : w1.cell? ⟨px, 1, none⟩ = some xv := (hb.cell (p := ⟨px, 1, none⟩) sx).trans cx1; have q6 : w1.cell? ⟨py, 1, none⟩ = some (.slice (some ⟨gy, 0, none⟩) 1 ky) := (hb.cell (p := ⟨py, 1, none⟩) sy).trans cy1)
    all_goals (go_wp2_with fail; go_meet)
    all_goals first | exact (cutQR_of HZ.out HR.out sz sr h1 nq nr g1 g2 (bl_undrew hb)).1 | exact (cutQR_of HZ.out HR.out sz sr h1 nq nr g1 g2 (bl_undrew hb)).2
  case rest =>
    obtain ⟨sa, sl, sc, sa', sl', sc', gq, gr, nq, nr, g1, g2, hu, hs, hs'⟩ := hcut
    have r1 : wc.cell? ⟨pz, 1, none⟩ = some (.slice sa sl sc) := cell_row hs 1
    have r0 : wc.cell? ⟨pz, 0, none⟩ = some (.bool false) := cell_row hs 0
    have r2 : wc.frozen? ⟨pz, 0, none⟩ = false := frozen_row hs 0
    have r1' : wc.cell? ⟨pr, 1, none⟩ = some (.slice sa' sl' sc') := cell_row hs' 1
    have r0' : wc.cell? ⟨pr, 0, none⟩ = some (.bool false) := cell_row hs' 0
    have r2' : wc.frozen? ⟨pr, 0, none⟩ = false := frozen_row hs' 0
    have r4 : wc.cell? ⟨px, 0, none⟩ = some (.bool xn) := (World.cell?_of_block (w := w) (hu.block px sx (Ne.symm h2) (Ne.symm h4))).trans cx0
    have r5 : wc.cell? ⟨py, 0, none⟩ = some (.bool yn) := (World.cell?_of_block (w := w) (hu.block py sy (Ne.symm h3) (Ne.symm h5))).trans cy0
    have HL := Lib.hid nq.len
    have HL' := Lib.hid nr.len
    have HQ := Lib.hid nq
    have HR' := Lib.hid nr
    have HG := Lib.hid (And.intro g1 g2)
    have HU := Lib.hid hu
    have HS := Lib.hid hs
    have HS' := Lib.hid hs'
    clear nq nr g1 g2 hu hs hs' cz0 cz1 cx0 cx1 cy0 cy1 cr0 cr1 fz1 fr1 C HZ HR
    obtain ⟨Q, eQ⟩ : ∃ Q, Q = x / y := ⟨_, rfl⟩
    obtain ⟨R, eR⟩ : ∃ R, R = x % y := ⟨_, rfl⟩
    rw [← eQ] at HL HQ
    rw [← eR] at HL' HR'
    have EQ := Lib.hid eQ
    have ER := Lib.hid eR
    clear eQ eR
    by_cases hn : 0 < Q <;> by_cases hn' : 0 < R
    · have hd : decide (0 < sl) = true := by rw [decide_eq_true_eq]; exact HL.out.1 hn
      have hd' : decide (0 < sl') = true := by rw [decide_eq_true_eq]; exact HL'.out.1 hn'
      have HN := Lib.hid (And.intro hn hn')
      clear hn hn'
      go_wp2_with fail
      refine wp_region_held_drew (S := (fun w' => w'.cell? ⟨pz, 1, none⟩ = some (.slice sa sl sc) ∧ w'.cell? ⟨pr, 1, none⟩ = some (.slice sa' sl' sc') ∧ w'.cell? ⟨px, 0, none⟩ = some (.bool xn) ∧ w'.cell? ⟨py, 0, none⟩ = some (.bool yn))) (by kernel_rfl) ⟨r1, r1', r4, r5⟩ (fun hHeld => ?_)
      refine wpAnyH_takeD 0 36 ?_ rfl rfl (by kernel_rfl) (by kernel_rfl) (by kernel_rfl) (fun _ _ _ h => h) (Or.inl ⟨by kernel_rfl, ?_⟩) hHeld ?_
      rotate_left; (intro W hW; (try dsimp only at hW); (first | (go_simp; done) | (go_simp; with_reducible rfl)))
      simp only [List.setIfInBounds_toArray, List.set_cons_zero, List.set_cons_succ]
      refine wpAnyH_takeD 1 37 ?_ rfl rfl (by kernel_rfl) (by kernel_rfl) (by kernel_rfl) (fun _ _ _ h => h) (Or.inl ⟨by kernel_rfl, ?_⟩) hHeld ?_
      rotate_left; (intro W hW; (try dsimp only at hW); (first | (go_simp; done) | (go_simp; with_reducible rfl)))
      simp only [List.setIfInBounds_toArray, List.set_cons_zero, List.set_cons_succ]
      refine wpAnyH_takeD 2 38 ?_ rfl rfl (by kernel_rfl) (by kernel_rfl) (by kernel_rfl) (fun _ _ _ h => h) (Or.inl ⟨by kernel_rfl, ?_⟩) hHeld ?_
      rotate_left; (intro W hW; (try dsimp only at hW); (first | (go_simp; done) | (go_simp; with_reducible rfl)))
      simp only [List.setIfInBounds_toArray, List.set_cons_zero, List.set_cons_succ]
      refine wpAnyH_takeD 3 39 ?_ rfl rfl (by kernel_rfl) (by kernel_rfl) (by kernel_rfl) (fun _ _ _ h => h) (Or.inl ⟨by kernel_rfl, ?_⟩) hHeld ?_
      rotate_left; (intro W hW; (try dsimp only at hW); (first | (go_simp; done) | (go_simp; with_reducible rfl)))
      simp only [List.setIfInBounds_toArray, List.set_cons_zero, List.set_cons_succ]
      refine wpAnyH_takeD 4 40 ?_ rfl rfl (by kernel_rfl) (by kernel_rfl) (by kernel_rfl) (fun _ _ _ h => h) (Or.inl ⟨by kernel_rfl, ?_⟩) hHeld ?_
      rotate_left; (intro W hW; (try dsimp only at hW); (first | (go_simp; done) | (go_simp; with_reducible rfl)))
      simp only [List.setIfInBounds_toArray, List.set_cons_zero, List.set_cons_succ]
      refine wpAnyH_takeD 5 41 ?_ rfl rfl (by kernel_rfl) (by kernel_rfl) (by kernel_rfl) (fun _ _ _ h => h) (Or.inl ⟨by kernel_rfl, ?_⟩) hHeld ?_
      rotate_left; (intro W hW; (try dsimp only at hW); (first | (go_simp; done) | (go_simp; with_reducible rfl)))
      simp only [List.setIfInBounds_toArray, List.set_cons_zero, List.set_cons_succ]
      refine wpAnyH_takeD 6 42 ?_ rfl rfl (by kernel_rfl) (by kernel_rfl) (by kernel_rfl) (fun _ _ _ h => h) (Or.inl ⟨by kernel_rfl, ?_⟩) hHeld ?_
      rotate_left; (intro W hW; (try dsimp only at hW); (first | (go_simp; done) | (go_simp; with_reducible rfl)))
      simp only [List.setIfInBounds_toArray, List.set_cons_zero, List.set_cons_succ]
      refine wpAnyH_takeD 7 43 ?_ rfl rfl (by kernel_rfl) (by kernel_rfl) (by kernel_rfl) (fun _ _ _ h => h) (Or.inl ⟨by kernel_rfl, ?_⟩) hHeld ?_
      rotate_left; (intro W hW; (try dsimp only at hW); (first | (go_simp; done) | (go_simp; with_reducible rfl)))
      simp only [List.setIfInBounds_toArray, List.set_cons_zero, List.set_cons_succ]
      refine wpAnyH_takeD 8 44 ?_ rfl rfl (by kernel_rfl) (by kernel_rfl) (by kernel_rfl) (fun _ _ _ h => h) (Or.inl ⟨by kernel_rfl, ?_⟩) hHeld ?_
      rotate_left; (intro W hW; (try dsimp only at hW); (first | (go_simp; done) | (go_simp; with_reducible rfl)))
      simp only [List.setIfInBounds_toArray, List.set_cons_zero, List.set_cons_succ]
      refine wpAnyH_takeD 9 45 ?_ rfl rfl (by kernel_rfl) (by kernel_rfl) (by kernel_rfl) (fun _ _ _ h => h) (Or.inl ⟨by kernel_rfl, ?_⟩) hHeld ?_
      rotate_left; (intro W hW; (try dsimp only at hW); (first | (go_simp; done) | (go_simp; with_reducible rfl)))
      simp only [List.setIfInBounds_toArray, List.set_cons_zero, List.set_cons_succ]
      refine wpAnyH_takeD 10 46 ?_ rfl rfl (by kernel_rfl) (by kernel_rfl) (by kernel_rfl) (fun _ _ _ h => h) (Or.inl ⟨by kernel_rfl, ?_⟩) hHeld ?_
      rotate_left; (intro W hW; (try dsimp only at hW); (first | (go_simp; done) | (go_simp; with_reducible rfl)))
      simp only [List.setIfInBounds_toArray, List.set_cons_zero, List.set_cons_succ]
      refine wpAnyH_takeD 11 47 ?_ rfl rfl (by kernel_rfl) (by kernel_rfl) (by kernel_rfl) (fun _ _ _ h => h) (Or.inl ⟨by kernel_rfl, ?_⟩) hHeld ?_
      rotate_left; (intro W hW; (try dsimp only at hW); (first | (go_simp; done) | (go_simp; with_reducible rfl)))
      simp only [List.setIfInBounds_toArray, List.set_cons_zero, List.set_cons_succ]
      refine wpAnyH_takeD 12 48 ?_ rfl rfl (by kernel_rfl) (by kernel_rfl) (by kernel_rfl) (fun _ _ _ h => h) (Or.inl ⟨by kernel_rfl, ?_⟩) hHeld ?_
      rotate_left; (intro W hW; (try dsimp only at hW); (first | (go_simp; done) | (go_simp; with_reducible rfl)))
      simp only [List.setIfInBounds_toArray, List.set_cons_zero, List.set_cons_succ]
      refine wpAnyH_takeD 13 49 ?_ rfl rfl (by kernel_rfl) (by kernel_rfl) (by kernel_rfl) (fun _ _ _ h => h) (Or.inl ⟨by kernel_rfl, ?_⟩) hHeld ?_
      rotate_left; (intro W hW; (try dsimp only at hW); (first | (go_simp; done) | (go_simp; with_reducible rfl)))
      simp only [List.setIfInBounds_toArray, List.set_cons_zero, List.set_cons_succ]
      refine wpAnyH_takeD 14 50 ?_ rfl rfl (by kernel_rfl) (by kernel_rfl) (by kernel_rfl) (fun _ _ _ h => h) (Or.inl ⟨by kernel_rfl, ?_⟩) hHeld ?_
      rotate_left; (intro W hW; (try dsimp only at hW); (first | (go_simp; done) | (go_simp; with_reducible rfl)))
      simp only [List.setIfInBounds_toArray, List.set_cons_zero, List.set_cons_succ]
      refine wpAnyH_takeD 15 51 ?_ rfl rfl (by kernel_rfl) (by kernel_rfl) (by kernel_rfl) (fun _ _ _ h => h) (Or.inl ⟨by kernel_rfl, ?_⟩) hHeld ?_
      rotate_left; (intro W hW; (try dsimp only at hW); (first | (go_simp; done) | (go_simp; with_reducible rfl)))
      simp only [List.setIfInBounds_toArray, List.set_cons_zero, List.set_cons_succ]
      refine wpAnyH_takeD 16 52 ?_ rfl rfl (by kernel_rfl) (by kernel_rfl) (by kernel_rfl) (fun _ _ _ h => h) (Or.inl ⟨by kernel_rfl, ?_⟩) hHeld ?_
      rotate_left; (intro W hW; (try dsimp only at hW); (first | (go_simp; done) | (go_simp; with_reducible rfl)))
      simp only [List.setIfInBounds_toArray, List.set_cons_zero, List.set_cons_succ]
      refine wpAnyH_takeD 17 53 ?_ rfl rfl (by kernel_rfl) (by kernel_rfl) (by kernel_rfl) (fun _ _ _ h => h) (Or.inl ⟨by kernel_rfl, ?_⟩) hHeld ?_
      rotate_left; (intro W hW; (try dsimp only at hW); (first | (go_simp; done) | (go_simp; with_reducible rfl)))
      simp only [List.setIfInBounds_toArray, List.set_cons_zero, List.set_cons_succ]
      refine wpAnyH_takeD 18 54 ?_ rfl rfl (by kernel_rfl) (by kernel_rfl) (by kernel_rfl) (fun _ _ _ h => h) (Or.inl ⟨by kernel_rfl, ?_⟩) hHeld ?_
      rotate_left; (intro W hW; (try dsimp only at hW); (first | (go_simp; done) | (go_simp; with_reducible rfl)))
      simp only [List.setIfInBounds_toArray, List.set_cons_zero, List.set_cons_succ]
      refine wpAnyH_takeD 19 55 ?_ rfl rfl (by kernel_rfl) (by kernel_rfl) (by kernel_rfl) (fun _ _ _ h => h) (Or.inl ⟨by kernel_rfl, ?_⟩) hHeld ?_
      rotate_left; (intro W hW; (try dsimp only at hW); (first | (go_simp; done) | (go_simp; with_reducible rfl)))
      simp only [List.setIfInBounds_toArray, List.set_cons_zero, List.set_cons_succ]
      refine wpAnyH_takeD 20 56 ?_ rfl rfl (by kernel_rfl) (by kernel_rfl) (by kernel_rfl) (fun _ _ _ h => h) (Or.inl ⟨by kernel_rfl, ?_⟩) hHeld ?_
      rotate_left; (intro W hW; (try dsimp only at hW); (first | (go_simp; done) | (go_simp; with_reducible rfl)))
      simp only [List.setIfInBounds_toArray, List.set_cons_zero, List.set_cons_succ]
      refine wpAnyH_takeD 21 57 ?_ rfl rfl (by kernel_rfl) (by kernel_rfl) (by kernel_rfl) (fun _ _ _ h => h) (Or.inl ⟨by kernel_rfl, ?_⟩) hHeld ?_
      rotate_left; (intro W hW; (try dsimp only at hW); (first | (go_simp; done) | (go_simp; with_reducible rfl)))
      simp only [List.setIfInBounds_toArray, List.set_cons_zero, List.set_cons_succ]
      refine wpAnyH_takeD 22 58 ?_ rfl rfl (by kernel_rfl) (by kernel_rfl) (by kernel_rfl) (fun _ _ _ h => h) (Or.inl ⟨by kernel_rfl, ?_⟩) hHeld ?_
      rotate_left; (intro W hW; (try dsimp only at hW); (first | (go_simp; done) | (go_simp; with_reducible rfl)))
      simp only [List.setIfInBounds_toArray, List.set_cons_zero, List.set_cons_succ]
      refine wpAnyH_takeD 23 59 ?_ rfl rfl (by kernel_rfl) (by kernel_rfl) (by kernel_rfl) (fun _ _ _ h => h) (Or.inl ⟨by kernel_rfl, ?_⟩) hHeld ?_
      rotate_left; (intro W hW; (try dsimp only at hW); (first | (go_simp; done) | (go_simp; with_reducible rfl)))
      simp only [List.setIfInBounds_toArray, List.set_cons_zero, List.set_cons_succ]
      refine wpAnyH_takeD 24 60 ?_ rfl rfl (by kernel_rfl) (by kernel_rfl) (by kernel_rfl) (fun _ _ _ h => h) (Or.inl ⟨by kernel_rfl, ?_⟩) hHeld ?_
      rotate_left; (intro W hW; (try dsimp only at hW); (first | (go_simp; done) | (go_simp; with_reducible rfl)))
      simp only [List.setIfInBounds_toArray, List.set_cons_zero, List.set_cons_succ]
      refine wpAnyH_takeD 25 61 ?_ rfl rfl (by kernel_rfl) (by kernel_rfl) (by kernel_rfl) (fun _ _ _ h => h) (Or.inl ⟨by kernel_rfl, ?_⟩) hHeld ?_
      rotate_left; (intro W hW; (try dsimp only at hW); (first | (go_simp; done) | (go_simp; with_reducible rfl)))
      simp only [List.setIfInBounds_toArray, List.set_cons_zero, List.set_cons_succ]
      refine wpAnyH_takeD 26 62 ?_ rfl rfl (by kernel_rfl) (by kernel_rfl) (by kernel_rfl) (fun _ _ _ h => h) (Or.inl ⟨by kernel_rfl, ?_⟩) hHeld ?_
      rotate_left; (intro W hW; (try dsimp only at hW); (first | (go_simp; done) | (go_simp; with_reducible rfl)))
      simp only [List.setIfInBounds_toArray, List.set_cons_zero, List.set_cons_succ]
      refine wpAnyH_takeD 27 63 ?_ rfl rfl (by kernel_rfl) (by kernel_rfl) (by kernel_rfl) (fun _ _ _ h => h) (Or.inl ⟨by kernel_rfl, ?_⟩) hHeld ?_
      rotate_left; (intro W hW; (try dsimp only at hW); (first | (go_simp; done) | (go_simp; with_reducible rfl)))
      simp only [List.setIfInBounds_toArray, List.set_cons_zero, List.set_cons_succ]
      refine wpAnyH_takeD 28 64 ?_ rfl rfl (by kernel_rfl) (by kernel_rfl) (by kernel_rfl) (fun _ _ _ h => h) (Or.inl ⟨by kernel_rfl, ?_⟩) hHeld ?_
      rotate_left; (intro W hW; (try dsimp only at hW); (first | (go_simp; done) | (go_simp; with_reducible rfl)))
      simp only [List.setIfInBounds_toArray, List.set_cons_zero, List.set_cons_succ]
      refine wpAnyH_takeD 29 65 ?_ rfl rfl (by kernel_rfl) (by kernel_rfl) (by kernel_rfl) (fun _ _ _ h => h) (Or.inl ⟨by kernel_rfl, ?_⟩) hHeld ?_
      rotate_left; (intro W hW; (try dsimp only at hW); (first | (go_simp; done) | (go_simp; with_reducible rfl)))
      simp only [List.setIfInBounds_toArray, List.set_cons_zero, List.set_cons_succ]
      refine wpAnyH_takeD 30 66 ?_ rfl rfl (by kernel_rfl) (by kernel_rfl) (by kernel_rfl) (fun _ _ _ h => h) (Or.inl ⟨by kernel_rfl, ?_⟩) hHeld ?_
      rotate_left; (intro W hW; (try dsimp only at hW); (first | (go_simp; done) | (go_simp; with_reducible rfl)))
      simp only [List.setIfInBounds_toArray, List.set_cons_zero, List.set_cons_succ]
      refine wpAnyH_takeD 31 67 ?_ rfl rfl (by kernel_rfl) (by kernel_rfl) (by kernel_rfl) (fun _ _ _ h => h) (Or.inl ⟨by kernel_rfl, ?_⟩) hHeld ?_
      rotate_left; (intro W hW; (try dsimp only at hW); (first | (go_simp; done) | (go_simp; with_reducible rfl)))
      simp only [List.setIfInBounds_toArray, List.set_cons_zero, List.set_cons_succ]
      refine wpAnyH_takeD 32 68 ?_ rfl rfl (by kernel_rfl) (by kernel_rfl) (by kernel_rfl) (fun _ _ _ h => h) (Or.inl ⟨by kernel_rfl, ?_⟩) hHeld ?_
      rotate_left; (intro W hW; (try dsimp only at hW); (first | (go_simp; done) | (go_simp; with_reducible rfl)))
      simp only [List.setIfInBounds_toArray, List.set_cons_zero, List.set_cons_succ]
      refine wpAnyH_ready (rs := [33]) (by kernel_rfl) (by simp) (AllReadyH.cons rfl (fun K hK => ?_) AllReadyH.nil)
      go_simp
      refine hK.out _ _ (keep_signs h1 h2 h3 h4 h5 pz (.inl rfl) _ hHeld) (fun hHeld => ?_)
      clear hK K
      refine wpAnyH_takeD 34 69 ?_ rfl rfl (by kernel_rfl) (by kernel_rfl) (by kernel_rfl) (fun _ _ _ h => h) (Or.inl ⟨by kernel_rfl, ?_⟩) hHeld ?_
      rotate_left; (intro W hW; (try dsimp only at hW); (first | (go_simp; done) | (go_simp; with_reducible rfl)))
      simp only [List.setIfInBounds_toArray, List.set_cons_zero, List.set_cons_succ]
      refine wpAnyH_takeD 35 70 ?_ rfl rfl (by kernel_rfl) (by kernel_rfl) (by kernel_rfl) (fun _ _ _ h => h) (Or.inl ⟨by kernel_rfl, ?_⟩) hHeld ?_
      rotate_left; (intro W hW; (try dsimp only at hW); (first | (go_simp; done) | (go_simp; with_reducible rfl)))
      simp only [List.setIfInBounds_toArray, List.set_cons_zero, List.set_cons_succ]
      refine wpAnyH_ready (rs := [36]) (by kernel_rfl) (by simp) (AllReadyH.cons rfl (fun K hK => ?_) AllReadyH.nil)
      go_simp
      refine hK.out _ _ (keep_signs h1 h2 h3 h4 h5 pr (.inr rfl) _ hHeld) (fun hHeld => ?_)
      clear hK K
      refine wpAnyH_done (by kernel_rfl) ?_ _
      go_wp2_with fail
      go_ret2
      exact qr_end 1 EQ.out ER.out HS.out HS'.out HQ.out HR'.out HG.out HU.out sz sr h1 (by have := HN.out; simp [this.1]; rfl) (by have := HN.out; simp [this.2])
    · have hd : decide (0 < sl) = true := by rw [decide_eq_true_eq]; exact HL.out.1 hn
      obtain rfl : sl' = 0 := HL'.out.2 (by omega)
      have HN := Lib.hid (And.intro hn hn')
      clear hn hn'
      go_wp2_with fail
      refine wp_region_held_drew (S := (fun w' => w'.cell? ⟨pz, 1, none⟩ = some (.slice sa sl sc) ∧ w'.cell? ⟨pr, 1, none⟩ = some (.slice sa' 0 sc') ∧ w'.cell? ⟨px, 0, none⟩ = some (.bool xn) ∧ w'.cell? ⟨py, 0, none⟩ = some (.bool yn))) (by kernel_rfl) ⟨r1, r1', r4, r5⟩ (fun hHeld => ?_)
      refine wpAnyH_takeD 0 36 ?_ rfl rfl (by kernel_rfl) (by kernel_rfl) (by kernel_rfl) (fun _ _ _ h => h) (Or.inl ⟨by kernel_rfl, ?_⟩) hHeld ?_
      rotate_left; (intro W hW; (try dsimp only at hW); (first | (go_simp; done) | (go_simp; with_reducible rfl)))
      simp only [List.setIfInBounds_toArray, List.set_cons_zero, List.set_cons_succ]
      refine wpAnyH_takeD 1 37 ?_ rfl rfl (by kernel_rfl) (by kernel_rfl) (by kernel_rfl) (fun _ _ _ h => h) (Or.inl ⟨by kernel_rfl, ?_⟩) hHeld ?_
      rotate_left; (intro W hW; (try dsimp only at hW); (first | (go_simp; done) | (go_simp; with_reducible rfl)))
      simp only [List.setIfInBounds_toArray, List.set_cons_zero, List.set_cons_succ]
      refine wpAnyH_takeD 2 38 ?_ rfl rfl (by kernel_rfl) (by kernel_rfl) (by kernel_rfl) (fun _ _ _ h => h) (Or.inl ⟨by kernel_rfl, ?_⟩) hHeld ?_
      rotate_left; (intro W hW; (try dsimp only at hW); (first | (go_simp; done) | (go_simp; with_reducible rfl)))
      simp only [List.setIfInBounds_toArray, List.set_cons_zero, List.set_cons_succ]
      refine wpAnyH_takeD 3 39 ?_ rfl rfl (by kernel_rfl) (by kernel_rfl) (by kernel_rfl) (fun _ _ _ h => h) (Or.inl ⟨by kernel_rfl, ?_⟩) hHeld ?_
      rotate_left; (intro W hW; (try dsimp only at hW); (first | (go_simp; done) | (go_simp; with_reducible rfl)))
      simp only [List.setIfInBounds_toArray, List.set_cons_zero, List.set_cons_succ]
      refine wpAnyH_takeD 4 40 ?_ rfl rfl (by kernel_rfl) (by kernel_rfl) (by kernel_rfl) (fun _ _ _ h => h) (Or.inl ⟨by kernel_rfl, ?_⟩) hHeld ?_
      rotate_left; (intro W hW; (try dsimp only at hW); (first | (go_simp; done) | (go_simp; with_reducible rfl)))
      simp only [List.setIfInBounds_toArray, List.set_cons_zero, List.set_cons_succ]
      refine wpAnyH_takeD 5 41 ?_ rfl rfl (by kernel_rfl) (by kernel_rfl) (by kernel_rfl) (fun _ _ _ h => h) (Or.inl ⟨by kernel_rfl, ?_⟩) hHeld ?_
      rotate_left; (intro W hW; (try dsimp only at hW); (first | (go_simp; done) | (go_simp; with_reducible rfl)))
      simp only [List.setIfInBounds_toArray, List.set_cons_zero, List.set_cons_succ]
      refine wpAnyH_takeD 6 42 ?_ rfl rfl (by kernel_rfl) (by kernel_rfl) (by kernel_rfl) (fun _ _ _ h => h) (Or.inl ⟨by kernel_rfl, ?_⟩) hHeld ?_
      rotate_left; (intro W hW; (try dsimp only at hW); (first | (go_simp; done) | (go_simp; with_reducible rfl)))
      simp only [List.setIfInBounds_toArray, List.set_cons_zero, List.set_cons_succ]
      refine wpAnyH_takeD 7 43 ?_ rfl rfl (by kernel_rfl) (by kernel_rfl) (by kernel_rfl) (fun _ _ _ h => h) (Or.inl ⟨by kernel_rfl, ?_⟩) hHeld ?_
      rotate_left; (intro W hW; (try dsimp only at hW); (first | (go_simp; done) | (go_simp; with_reducible rfl)))
      simp only [List.setIfInBounds_toArray, List.set_cons_zero, List.set_cons_succ]
      refine wpAnyH_takeD 8 44 ?_ rfl rfl (by kernel_rfl) (by kernel_rfl) (by kernel_rfl) (fun _ _ _ h => h) (Or.inl ⟨by kernel_rfl, ?_⟩) hHeld ?_
      rotate_left; (intro W hW; (try dsimp only at hW); (first | (go_simp; done) | (go_simp; with_reducible rfl)))
      simp only [List.setIfInBounds_toArray, List.set_cons_zero, List.set_cons_succ]
      refine wpAnyH_takeD 9 45 ?_ rfl rfl (by kernel_rfl) (by kernel_rfl) (by kernel_rfl) (fun _ _ _ h => h) (Or.inl ⟨by kernel_rfl, ?_⟩) hHeld ?_
      rotate_left; (intro W hW; (try dsimp only at hW); (first | (go_simp; done) | (go_simp; with_reducible rfl)))
      simp only [List.setIfInBounds_toArray, List.set_cons_zero, List.set_cons_succ]
      refine wpAnyH_takeD 10 46 ?_ rfl rfl (by kernel_rfl) (by kernel_rfl) (by kernel_rfl) (fun _ _ _ h => h) (Or.inl ⟨by kernel_rfl, ?_⟩) hHeld ?_
      rotate_left; (intro W hW; (try dsimp only at hW); (first | (go_simp; done) | (go_simp; with_reducible rfl)))
      simp only [List.setIfInBounds_toArray, List.set_cons_zero, List.set_cons_succ]
      refine wpAnyH_takeD 11 47 ?_ rfl rfl (by kernel_rfl) (by kernel_rfl) (by kernel_rfl) (fun _ _ _ h => h) (Or.inl ⟨by kernel_rfl, ?_⟩) hHeld ?_
      rotate_left; (intro W hW; (try dsimp only at hW); (first | (go_simp; done) | (go_simp; with_reducible rfl)))
      simp only [List.setIfInBounds_toArray, List.set_cons_zero, List.set_cons_succ]
      refine wpAnyH_takeD 12 48 ?_ rfl rfl (by kernel_rfl) (by kernel_rfl) (by kernel_rfl) (fun _ _ _ h => h) (Or.inl ⟨by kernel_rfl, ?_⟩) hHeld ?_
      rotate_left; (intro W hW; (try dsimp only at hW); (first | (go_simp; done) | (go_simp; with_reducible rfl)))
      simp only [List.setIfInBounds_toArray, List.set_cons_zero, List.set_cons_succ]
      refine wpAnyH_takeD 13 49 ?_ rfl rfl (by kernel_rfl) (by kernel_rfl) (by kernel_rfl) (fun _ _ _ h => h) (Or.inl ⟨by kernel_rfl, ?_⟩) hHeld ?_
      rotate_left; (intro W hW; (try dsimp only at hW); (first | (go_simp; done) | (go_simp; with_reducible rfl)))
      simp only [List.setIfInBounds_toArray, List.set_cons_zero, List.set_cons_succ]
      refine wpAnyH_takeD 14 50 ?_ rfl rfl (by kernel_rfl) (by kernel_rfl) (by kernel_rfl) (fun _ _ _ h => h) (Or.inl ⟨by kernel_rfl, ?_⟩) hHeld ?_
      rotate_left; (intro W hW; (try dsimp only at hW); (first | (go_simp; done) | (go_simp; with_reducible rfl)))
      simp only [List.setIfInBounds_toArray, List.set_cons_zero, List.set_cons_succ]
      refine wpAnyH_takeD 15 51 ?_ rfl rfl (by kernel_rfl) (by kernel_rfl) (by kernel_rfl) (fun _ _ _ h => h) (Or.inl ⟨by kernel_rfl, ?_⟩) hHeld ?_
      rotate_left; (intro W hW; (try dsimp only at hW); (first | (go_simp; done) | (go_simp; with_reducible rfl)))
      simp only [List.setIfInBounds_toArray, List.set_cons_zero, List.set_cons_succ]
      refine wpAnyH_takeD 16 52 ?_ rfl rfl (by kernel_rfl) (by kernel_rfl) (by kernel_rfl) (fun _ _ _ h => h) (Or.inl ⟨by kernel_rfl, ?_⟩) hHeld ?_
      rotate_left; (intro W hW; (try dsimp only at hW); (first | (go_simp; done) | (go_simp; with_reducible rfl)))
      simp only [List.setIfInBounds_toArray, List.set_cons_zero, List.set_cons_succ]
      refine wpAnyH_takeD 17 53 ?_ rfl rfl (by kernel_rfl) (by kernel_rfl) (by kernel_rfl) (fun _ _ _ h => h) (Or.inl ⟨by kernel_rfl, ?_⟩) hHeld ?_
      rotate_left; (intro W hW; (try dsimp only at hW); (first | (go_simp; done) | (go_simp; with_reducible rfl)))
      simp only [List.setIfInBounds_toArray, List.set_cons_zero, List.set_cons_succ]
      refine wpAnyH_takeD 18 54 ?_ rfl rfl (by kernel_rfl) (by kernel_rfl) (by kernel_rfl) (fun _ _ _ h => h) (Or.inl ⟨by kernel_rfl, ?_⟩) hHeld ?_
      rotate_left; (intro W hW; (try dsimp only at hW); (first | (go_simp; done) | (go_simp; with_reducible rfl)))
      simp only [List.setIfInBounds_toArray, List.set_cons_zero, List.set_cons_succ]
      refine wpAnyH_takeD 19 55 ?_ rfl rfl (by kernel_rfl) (by kernel_rfl) (by kernel_rfl) (fun _ _ _ h => h) (Or.inl ⟨by kernel_rfl, ?_⟩) hHeld ?_
      rotate_left; (intro W hW; (try dsimp only at hW); (first | (go_simp; done) | (go_simp; with_reducible rfl)))
      simp only [List.setIfInBounds_toArray, List.set_cons_zero, List.set_cons_succ]
      refine wpAnyH_takeD 20 56 ?_ rfl rfl (by kernel_rfl) (by kernel_rfl) (by kernel_rfl) (fun _ _ _ h => h) (Or.inl ⟨by kernel_rfl, ?_⟩) hHeld ?_
      rotate_left; (intro W hW; (try dsimp only at hW); (first | (go_simp; done) | (go_simp; with_reducible rfl)))
      simp only [List.setIfInBounds_toArray, List.set_cons_zero, List.set_cons_succ]
      refine wpAnyH_takeD 21 57 ?_ rfl rfl (by kernel_rfl) (by kernel_rfl) (by kernel_rfl) (fun _ _ _ h => h) (Or.inl ⟨by kernel_rfl, ?_⟩) hHeld ?_
      rotate_left; (intro W hW; (try dsimp only at hW); (first | (go_simp; done) | (go_simp; with_reducible rfl)))
      simp only [List.setIfInBounds_toArray, List.set_cons_zero, List.set_cons_succ]
      refine wpAnyH_takeD 22 58 ?_ rfl rfl (by kernel_rfl) (by kernel_rfl) (by kernel_rfl) (fun _ _ _ h => h) (Or.inl ⟨by kernel_rfl, ?_⟩) hHeld ?_
      rotate_left; (intro W hW; (try dsimp only at hW); (first | (go_simp; done) | (go_simp; with_reducible rfl)))
      simp only [List.setIfInBounds_toArray, List.set_cons_zero, List.set_cons_succ]
      refine wpAnyH_takeD 23 59 ?_ rfl rfl (by kernel_rfl) (by kernel_rfl) (by kernel_rfl) (fun _ _ _ h => h) (Or.inl ⟨by kernel_rfl, ?_⟩) hHeld ?_
      rotate_left; (intro W hW; (try dsimp only at hW); (first | (go_simp; done) | (go_simp; with_reducible rfl)))
      simp only [List.setIfInBounds_toArray, List.set_cons_zero, List.set_cons_succ]
      refine wpAnyH_takeD 24 60 ?_ rfl rfl (by kernel_rfl) (by kernel_rfl) (by kernel_rfl) (fun _ _ _ h => h) (Or.inl ⟨by kernel_rfl, ?_⟩) hHeld ?_
      rotate_left; (intro W hW; (try dsimp only at hW); (first | (go_simp; done) | (go_simp; with_reducible rfl)))
      simp only [List.setIfInBounds_toArray, List.set_cons_zero, List.set_cons_succ]
      refine wpAnyH_takeD 25 61 ?_ rfl rfl (by kernel_rfl) (by kernel_rfl) (by kernel_rfl) (fun _ _ _ h => h) (Or.inl ⟨by kernel_rfl, ?_⟩) hHeld ?_
      rotate_left; (intro W hW; (try dsimp only at hW); (first | (go_simp; done) | (go_simp; with_reducible rfl)))
      simp only [List.setIfInBounds_toArray, List.set_cons_zero, List.set_cons_succ]
      refine wpAnyH_takeD 26 62 undef rfl rfl (by kernel_rfl) (by kernel_rfl) (by kernel_rfl) (fun _ _ _ h => h) (Or.inr ⟨by kernel_rfl, rfl⟩) hHeld ?_
      simp only [List.setIfInBounds_toArray, List.set_cons_zero, List.set_cons_succ]
      refine wpAnyH_takeD 27 63 undef rfl rfl (by kernel_rfl) (by kernel_rfl) (by kernel_rfl) (fun _ _ _ h => h) (Or.inr ⟨by kernel_rfl, rfl⟩) hHeld ?_
      simp only [List.setIfInBounds_toArray, List.set_cons_zero, List.set_cons_succ]
      refine wpAnyH_takeD 28 64 undef rfl rfl (by kernel_rfl) (by kernel_rfl) (by kernel_rfl) (fun _ _ _ h => h) (Or.inr ⟨by kernel_rfl, rfl⟩) hHeld ?_
      simp only [List.setIfInBounds_toArray, List.set_cons_zero, List.set_cons_succ]
      refine wpAnyH_takeD 29 65 undef rfl rfl (by kernel_rfl) (by kernel_rfl) (by kernel_rfl) (fun _ _ _ h => h) (Or.inr ⟨by kernel_rfl, rfl⟩) hHeld ?_
      simp only [List.setIfInBounds_toArray, List.set_cons_zero, List.set_cons_succ]
      refine wpAnyH_takeD 30 66 ?_ rfl rfl (by kernel_rfl) (by kernel_rfl) (by kernel_rfl) (fun _ _ _ h => h) (Or.inl ⟨by kernel_rfl, ?_⟩) hHeld ?_
      rotate_left; (intro W hW; (try dsimp only at hW); (first | (go_simp; done) | (go_simp; with_reducible rfl)))
      simp only [List.setIfInBounds_toArray, List.set_cons_zero, List.set_cons_succ]
      refine wpAnyH_takeD 31 67 ?_ rfl rfl (by kernel_rfl) (by kernel_rfl) (by kernel_rfl) (fun _ _ _ h => h) (Or.inl ⟨by kernel_rfl, ?_⟩) hHeld ?_
      rotate_left; (intro W hW; (try dsimp only at hW); (first | (go_simp; done) | (go_simp; with_reducible rfl)))
      simp only [List.setIfInBounds_toArray, List.set_cons_zero, List.set_cons_succ]
      refine wpAnyH_takeD 32 68 ?_ rfl rfl (by kernel_rfl) (by kernel_rfl) (by kernel_rfl) (fun _ _ _ h => h) (Or.inl ⟨by kernel_rfl, ?_⟩) hHeld ?_
      rotate_left; (intro W hW; (try dsimp only at hW); (first | (go_simp; done) | (go_simp; with_reducible rfl)))
      simp only [List.setIfInBounds_toArray, List.set_cons_zero, List.set_cons_succ]
      refine wpAnyH_ready (rs := [33]) (by kernel_rfl) (by simp) (AllReadyH.cons rfl (fun K hK => ?_) AllReadyH.nil)
      go_simp
      refine hK.out _ _ (keep_signs h1 h2 h3 h4 h5 pz (.inl rfl) _ hHeld) (fun hHeld => ?_)
      clear hK K
      refine wpAnyH_takeD 34 69 ?_ rfl rfl (by kernel_rfl) (by kernel_rfl) (by kernel_rfl) (fun _ _ _ h => h) (Or.inl ⟨by kernel_rfl, ?_⟩) hHeld ?_
      rotate_left; (intro W hW; (try dsimp only at hW); (first | (go_simp; done) | (go_simp; with_reducible rfl)))
      simp only [List.setIfInBounds_toArray, List.set_cons_zero, List.set_cons_succ]
      refine wpAnyH_takeD 35 70 ?_ rfl rfl (by kernel_rfl) (by kernel_rfl) (by kernel_rfl) (fun _ _ _ h => h) (Or.inl ⟨by kernel_rfl, ?_⟩) hHeld ?_
      rotate_left; (intro W hW; (try dsimp only at hW); (first | (go_simp; done) | (go_simp; with_reducible rfl)))
      simp only [List.setIfInBounds_toArray, List.set_cons_zero, List.set_cons_succ]
      refine wpAnyH_ready (rs := [36]) (by kernel_rfl) (by simp) (AllReadyH.cons rfl (fun K hK => ?_) AllReadyH.nil)
      go_simp
      refine hK.out _ _ (keep_signs h1 h2 h3 h4 h5 pr (.inr rfl) _ hHeld) (fun hHeld => ?_)
      clear hK K
      refine wpAnyH_done (by kernel_rfl) ?_ _
      go_wp2_with fail
      go_ret2
      exact qr_end 1 EQ.out ER.out HS.out HS'.out HQ.out HR'.out HG.out HU.out sz sr h1 (by have := HN.out; simp [this.1]; rfl) (by have := HN.out; simp [this.2])
    · obtain rfl : sl = 0 := HL.out.2 (by omega)
      have hd' : decide (0 < sl') = true := by rw [decide_eq_true_eq]; exact HL'.out.1 hn'
      have HN := Lib.hid (And.intro hn hn')
      clear hn hn'
      go_wp2_with fail
      refine wp_region_held_drew (S := (fun w' => w'.cell? ⟨pz, 1, none⟩ = some (.slice sa 0 sc) ∧ w'.cell? ⟨pr, 1, none⟩ = some (.slice sa' sl' sc') ∧ w'.cell? ⟨px, 0, none⟩ = some (.bool xn) ∧ w'.cell? ⟨py, 0, none⟩ = some (.bool yn))) (by kernel_rfl) ⟨r1, r1', r4, r5⟩ (fun hHeld => ?_)
      refine wpAnyH_takeD 0 36 ?_ rfl rfl (by kernel_rfl) (by kernel_rfl) (by kernel_rfl) (fun _ _ _ h => h) (Or.inl ⟨by kernel_rfl, ?_⟩) hHeld ?_
      rotate_left; (intro W hW; (try dsimp only at hW); (first | (go_simp; done) | (go_simp; with_reducible rfl)))
      simp only [List.setIfInBounds_toArray, List.set_cons_zero, List.set_cons_succ]
      refine wpAnyH_takeD 1 37 ?_ rfl rfl (by kernel_rfl) (by kernel_rfl) (by kernel_rfl) (fun _ _ _ h => h) (Or.inl ⟨by kernel_rfl, ?_⟩) hHeld ?_
      rotate_left; (intro W hW; (try dsimp only at hW); (first | (go_simp; done) | (go_simp; with_reducible rfl)))
      simp only [List.setIfInBounds_toArray, List.set_cons_zero, List.set_cons_succ]
      refine wpAnyH_takeD 2 38 ?_ rfl rfl (by kernel_rfl) (by kernel_rfl) (by kernel_rfl) (fun _ _ _ h => h) (Or.inl ⟨by kernel_rfl, ?_⟩) hHeld ?_
      rotate_left; (intro W hW; (try dsimp only at hW); (first | (go_simp; done) | (go_simp; with_reducible rfl)))
      simp only [List.setIfInBounds_toArray, List.set_cons_zero, List.set_cons_succ]
      refine wpAnyH_takeD 3 39 ?_ rfl rfl (by kernel_rfl) (by kernel_rfl) (by kernel_rfl) (fun _ _ _ h => h) (Or.inl ⟨by kernel_rfl, ?_⟩) hHeld ?_
      rotate_left; (intro W hW; (try dsimp only at hW); (first | (go_simp; done) | (go_simp; with_reducible rfl)))
      simp only [List.setIfInBounds_toArray, List.set_cons_zero, List.set_cons_succ]
      refine wpAnyH_takeD 4 40 ?_ rfl rfl (by kernel_rfl) (by kernel_rfl) (by kernel_rfl) (fun _ _ _ h => h) (Or.inl ⟨by kernel_rfl, ?_⟩) hHeld ?_
      rotate_left; (intro W hW; (try dsimp only at hW); (first | (go_simp; done) | (go_simp; with_reducible rfl)))
      simp only [List.setIfInBounds_toArray, List.set_cons_zero, List.set_cons_succ]
      refine wpAnyH_takeD 5 41 ?_ rfl rfl (by kernel_rfl) (by kernel_rfl) (by kernel_rfl) (fun _ _ _ h => h) (Or.inl ⟨by kernel_rfl, ?_⟩) hHeld ?_
      rotate_left; (intro W hW; (try dsimp only at hW); (first | (go_simp; done) | (go_simp; with_reducible rfl)))
      simp only [List.setIfInBounds_toArray, List.set_cons_zero, List.set_cons_succ]
      refine wpAnyH_takeD 6 42 ?_ rfl rfl (by kernel_rfl) (by kernel_rfl) (by kernel_rfl) (fun _ _ _ h => h) (Or.inl ⟨by kernel_rfl, ?_⟩) hHeld ?_
      rotate_left; (intro W hW; (try dsimp only at hW); (first | (go_simp; done) | (go_simp; with_reducible rfl)))
      simp only [List.setIfInBounds_toArray, List.set_cons_zero, List.set_cons_succ]
      refine wpAnyH_takeD 7 43 ?_ rfl rfl (by kernel_rfl) (by kernel_rfl) (by kernel_rfl) (fun _ _ _ h => h) (Or.inl ⟨by kernel_rfl, ?_⟩) hHeld ?_
      rotate_left; (intro W hW; (try dsimp only at hW); (first | (go_simp; done) | (go_simp; with_reducible rfl)))
      simp only [List.setIfInBounds_toArray, List.set_cons_zero, List.set_cons_succ]
      refine wpAnyH_takeD 8 44 ?_ rfl rfl (by kernel_rfl) (by kernel_rfl) (by kernel_rfl) (fun _ _ _ h => h) (Or.inl ⟨by kernel_rfl, ?_⟩) hHeld ?_
      rotate_left; (intro W hW; (try dsimp only at hW); (first | (go_simp; done) | (go_simp; with_reducible rfl)))
      simp only [List.setIfInBounds_toArray, List.set_cons_zero, List.set_cons_succ]
      refine wpAnyH_takeD 9 45 undef rfl rfl (by kernel_rfl) (by kernel_rfl) (by kernel_rfl) (fun _ _ _ h => h) (Or.inr ⟨by kernel_rfl, rfl⟩) hHeld ?_
      simp only [List.setIfInBounds_toArray, List.set_cons_zero, List.set_cons_succ]
      refine wpAnyH_takeD 10 46 undef rfl rfl (by kernel_rfl) (by kernel_rfl) (by kernel_rfl) (fun _ _ _ h => h) (Or.inr ⟨by kernel_rfl, rfl⟩) hHeld ?_
      simp only [List.setIfInBounds_toArray, List.set_cons_zero, List.set_cons_succ]
      refine wpAnyH_takeD 11 47 undef rfl rfl (by kernel_rfl) (by kernel_rfl) (by kernel_rfl) (fun _ _ _ h => h) (Or.inr ⟨by kernel_rfl, rfl⟩) hHeld ?_
      simp only [List.setIfInBounds_toArray, List.set_cons_zero, List.set_cons_succ]
      refine wpAnyH_takeD 12 48 undef rfl rfl (by kernel_rfl) (by kernel_rfl) (by kernel_rfl) (fun _ _ _ h => h) (Or.inr ⟨by kernel_rfl, rfl⟩) hHeld ?_
      simp only [List.setIfInBounds_toArray, List.set_cons_zero, List.set_cons_succ]
      refine wpAnyH_takeD 13 49 undef rfl rfl (by kernel_rfl) (by kernel_rfl) (by kernel_rfl) (fun _ _ _ h => h) (Or.inr ⟨by kernel_rfl, rfl⟩) hHeld ?_
      simp only [List.setIfInBounds_toArray, List.set_cons_zero, List.set_cons_succ]
      refine wpAnyH_takeD 14 50 undef rfl rfl (by kernel_rfl) (by kernel_rfl) (by kernel_rfl) (fun _ _ _ h => h) (Or.inr ⟨by kernel_rfl, rfl⟩) hHeld ?_
      simp only [List.setIfInBounds_toArray, List.set_cons_zero, List.set_cons_succ]
      refine wpAnyH_takeD 15 51 undef rfl rfl (by kernel_rfl) (by kernel_rfl) (by kernel_rfl) (fun _ _ _ h => h) (Or.inr ⟨by kernel_rfl, rfl⟩) hHeld ?_
      simp only [List.setIfInBounds_toArray, List.set_cons_zero, List.set_cons_succ]
      refine wpAnyH_takeD 16 52 undef rfl rfl (by kernel_rfl) (by kernel_rfl) (by kernel_rfl) (fun _ _ _ h => h) (Or.inr ⟨by kernel_rfl, rfl⟩) hHeld ?_
      simp only [List.setIfInBounds_toArray, List.set_cons_zero, List.set_cons_succ]
      refine wpAnyH_takeD 17 53 undef rfl rfl (by kernel_rfl) (by kernel_rfl) (by kernel_rfl) (fun _ _ _ h => h) (Or.inr ⟨by kernel_rfl, rfl⟩) hHeld ?_
      simp only [List.setIfInBounds_toArray, List.set_cons_zero, List.set_cons_succ]
      refine wpAnyH_takeD 18 54 ?_ rfl rfl (by kernel_rfl) (by kernel_rfl) (by kernel_rfl) (fun _ _ _ h => h) (Or.inl ⟨by kernel_rfl, ?_⟩) hHeld ?_
      rotate_left; (intro W hW; (try dsimp only at hW); (first | (go_simp; done) | (go_simp; with_reducible rfl)))
      simp only [List.setIfInBounds_toArray, List.set_cons_zero, List.set_cons_succ]
      refine wpAnyH_takeD 19 55 ?_ rfl rfl (by kernel_rfl) (by kernel_rfl) (by kernel_rfl) (fun _ _ _ h => h) (Or.inl ⟨by kernel_rfl, ?_⟩) hHeld ?_
      rotate_left; (intro W hW; (try dsimp only at hW); (first | (go_simp; done) | (go_simp; with_reducible rfl)))
      simp only [List.setIfInBounds_toArray, List.set_cons_zero, List.set_cons_succ]
      refine wpAnyH_takeD 20 56 ?_ rfl rfl (by kernel_rfl) (by kernel_rfl) (by kernel_rfl) (fun _ _ _ h => h) (Or.inl ⟨by kernel_rfl, ?_⟩) hHeld ?_
      rotate_left; (intro W hW; (try dsimp only at hW); (first | (go_simp; done) | (go_simp; with_reducible rfl)))
      simp only [List.setIfInBounds_toArray, List.set_cons_zero, List.set_cons_succ]
      refine wpAnyH_takeD 21 57 ?_ rfl rfl (by kernel_rfl) (by kernel_rfl) (by kernel_rfl) (fun _ _ _ h => h) (Or.inl ⟨by kernel_rfl, ?_⟩) hHeld ?_
      rotate_left; (intro W hW; (try dsimp only at hW); (first | (go_simp; done) | (go_simp; with_reducible rfl)))
      simp only [List.setIfInBounds_toArray, List.set_cons_zero, List.set_cons_succ]
      refine wpAnyH_takeD 22 58 ?_ rfl rfl (by kernel_rfl) (by kernel_rfl) (by kernel_rfl) (fun _ _ _ h => h) (Or.inl ⟨by kernel_rfl, ?_⟩) hHeld ?_
      rotate_left; (intro W hW; (try dsimp only at hW); (first | (go_simp; done) | (go_simp; with_reducible rfl)))
      simp only [List.setIfInBounds_toArray, List.set_cons_zero, List.set_cons_succ]
      refine wpAnyH_takeD 23 59 ?_ rfl rfl (by kernel_rfl) (by kernel_rfl) (by kernel_rfl) (fun _ _ _ h => h) (Or.inl ⟨by kernel_rfl, ?_⟩) hHeld ?_
      rotate_left; (intro W hW; (try dsimp only at hW); (first | (go_simp; done) | (go_simp; with_reducible rfl)))
      simp only [List.setIfInBounds_toArray, List.set_cons_zero, List.set_cons_succ]
      refine wpAnyH_takeD 24 60 ?_ rfl rfl (by kernel_rfl) (by kernel_rfl) (by kernel_rfl) (fun _ _ _ h => h) (Or.inl ⟨by kernel_rfl, ?_⟩) hHeld ?_
      rotate_left; (intro W hW; (try dsimp only at hW); (first | (go_simp; done) | (go_simp; with_reducible rfl)))
      simp only [List.setIfInBounds_toArray, List.set_cons_zero, List.set_cons_succ]
      refine wpAnyH_takeD 25 61 ?_ rfl rfl (by kernel_rfl) (by kernel_rfl) (by kernel_rfl) (fun _ _ _ h => h) (Or.inl ⟨by kernel_rfl, ?_⟩) hHeld ?_
      rotate_left; (intro W hW; (try dsimp only at hW); (first | (go_simp; done) | (go_simp; with_reducible rfl)))
      simp only [List.setIfInBounds_toArray, List.set_cons_zero, List.set_cons_succ]
      refine wpAnyH_takeD 26 62 ?_ rfl rfl (by kernel_rfl) (by kernel_rfl) (by kernel_rfl) (fun _ _ _ h => h) (Or.inl ⟨by kernel_rfl, ?_⟩) hHeld ?_
      rotate_left; (intro W hW; (try dsimp only at hW); (first | (go_simp; done) | (go_simp; with_reducible rfl)))
      simp only [List.setIfInBounds_toArray, List.set_cons_zero, List.set_cons_succ]
      refine wpAnyH_takeD 27 63 ?_ rfl rfl (by kernel_rfl) (by kernel_rfl) (by kernel_rfl) (fun _ _ _ h => h) (Or.inl ⟨by kernel_rfl, ?_⟩) hHeld ?_
      rotate_left; (intro W hW; (try dsimp only at hW); (first | (go_simp; done) | (go_simp; with_reducible rfl)))
      simp only [List.setIfInBounds_toArray, List.set_cons_zero, List.set_cons_succ]
      refine wpAnyH_takeD 28 64 ?_ rfl rfl (by kernel_rfl) (by kernel_rfl) (by kernel_rfl) (fun _ _ _ h => h) (Or.inl ⟨by kernel_rfl, ?_⟩) hHeld ?_
      rotate_left; (intro W hW; (try dsimp only at hW); (first | (go_simp; done) | (go_simp; with_reducible rfl)))
      simp only [List.setIfInBounds_toArray, List.set_cons_zero, List.set_cons_succ]
      refine wpAnyH_takeD 29 65 ?_ rfl rfl (by kernel_rfl) (by kernel_rfl) (by kernel_rfl) (fun _ _ _ h => h) (Or.inl ⟨by kernel_rfl, ?_⟩) hHeld ?_
      rotate_left; (intro W hW; (try dsimp only at hW); (first | (go_simp; done) | (go_simp; with_reducible rfl)))
      simp only [List.setIfInBounds_toArray, List.set_cons_zero, List.set_cons_succ]
      refine wpAnyH_takeD 30 66 ?_ rfl rfl (by kernel_rfl) (by kernel_rfl) (by kernel_rfl) (fun _ _ _ h => h) (Or.inl ⟨by kernel_rfl, ?_⟩) hHeld ?_
      rotate_left; (intro W hW; (try dsimp only at hW); (first | (go_simp; done) | (go_simp; with_reducible rfl)))
      simp only [List.setIfInBounds_toArray, List.set_cons_zero, List.set_cons_succ]
      refine wpAnyH_takeD 31 67 ?_ rfl rfl (by kernel_rfl) (by kernel_rfl) (by kernel_rfl) (fun _ _ _ h => h) (Or.inl ⟨by kernel_rfl, ?_⟩) hHeld ?_
      rotate_left; (intro W hW; (try dsimp only at hW); (first | (go_simp; done) | (go_simp; with_reducible rfl)))
      simp only [List.setIfInBounds_toArray, List.set_cons_zero, List.set_cons_succ]
      refine wpAnyH_takeD 32 68 ?_ rfl rfl (by kernel_rfl) (by kernel_rfl) (by kernel_rfl) (fun _ _ _ h => h) (Or.inl ⟨by kernel_rfl, ?_⟩) hHeld ?_
      rotate_left; (intro W hW; (try dsimp only at hW); (first | (go_simp; done) | (go_simp; with_reducible rfl)))
      simp only [List.setIfInBounds_toArray, List.set_cons_zero, List.set_cons_succ]
      refine wpAnyH_ready (rs := [33]) (by kernel_rfl) (by simp) (AllReadyH.cons rfl (fun K hK => ?_) AllReadyH.nil)
      go_simp
      refine hK.out _ _ (keep_signs h1 h2 h3 h4 h5 pz (.inl rfl) _ hHeld) (fun hHeld => ?_)
      clear hK K
      refine wpAnyH_takeD 34 69 ?_ rfl rfl (by kernel_rfl) (by kernel_rfl) (by kernel_rfl) (fun _ _ _ h => h) (Or.inl ⟨by kernel_rfl, ?_⟩) hHeld ?_
      rotate_left; (intro W hW; (try dsimp only at hW); (first | (go_simp; done) | (go_simp; with_reducible rfl)))
      simp only [List.setIfInBounds_toArray, List.set_cons_zero, List.set_cons_succ]
      refine wpAnyH_takeD 35 70 ?_ rfl rfl (by kernel_rfl) (by kernel_rfl) (by kernel_rfl) (fun _ _ _ h => h) (Or.inl ⟨by kernel_rfl, ?_⟩) hHeld ?_
      rotate_left; (intro W hW; (try dsimp only at hW); (first | (go_simp; done) | (go_simp; with_reducible rfl)))
      simp only [List.setIfInBounds_toArray, List.set_cons_zero, List.set_cons_succ]
      refine wpAnyH_ready (rs := [36]) (by kernel_rfl) (by simp) (AllReadyH.cons rfl (fun K hK => ?_) AllReadyH.nil)
      go_simp
      refine hK.out _ _ (keep_signs h1 h2 h3 h4 h5 pr (.inr rfl) _ hHeld) (fun hHeld => ?_)
      clear hK K
      refine wpAnyH_done (by kernel_rfl) ?_ _
      go_wp2_with fail
      go_ret2
      exact qr_end 1 EQ.out ER.out HS.out HS'.out HQ.out HR'.out HG.out HU.out sz sr h1 (by have := HN.out; simp [this.1]) (by have := HN.out; simp [this.2])
    · obtain rfl : sl = 0 := HL.out.2 (by omega)
      obtain rfl : sl' = 0 := HL'.out.2 (by omega)
      have HN := Lib.hid (And.intro hn hn')
      clear hn hn'
      go_wp2_with fail
      refine wp_region_held_drew (S := (fun w' => w'.cell? ⟨pz, 1, none⟩ = some (.slice sa 0 sc) ∧ w'.cell? ⟨pr, 1, none⟩ = some (.slice sa' 0 sc') ∧ w'.cell? ⟨px, 0, none⟩ = some (.bool xn) ∧ w'.cell? ⟨py, 0, none⟩ = some (.bool yn))) (by kernel_rfl) ⟨r1, r1', r4, r5⟩ (fun hHeld => ?_)
      refine wpAnyH_takeD 0 36 ?_ rfl rfl (by kernel_rfl) (by kernel_rfl) (by kernel_rfl) (fun _ _ _ h => h) (Or.inl ⟨by kernel_rfl, ?_⟩) hHeld ?_
      rotate_left; (intro W hW; (try dsimp only at hW); (first | (go_simp; done) | (go_simp; with_reducible rfl)))
      simp only [List.setIfInBounds_toArray, List.set_cons_zero, List.set_cons_succ]
      refine wpAnyH_takeD 1 37 ?_ rfl rfl (by kernel_rfl) (by kernel_rfl) (by kernel_rfl) (fun _ _ _ h => h) (Or.inl ⟨by kernel_rfl, ?_⟩) hHeld ?_
      rotate_left; (intro W hW; (try dsimp only at hW); (first | (go_simp; done) | (go_simp; with_reducible rfl)))
      simp only [List.setIfInBounds_toArray, List.set_cons_zero, List.set_cons_succ]
      refine wpAnyH_takeD 2 38 ?_ rfl rfl (by kernel_rfl) (by kernel_rfl) (by kernel_rfl) (fun _ _ _ h => h) (Or.inl ⟨by kernel_rfl, ?_⟩) hHeld ?_
      rotate_left; (intro W hW; (try dsimp only at hW); (first | (go_simp; done) | (go_simp; with_reducible rfl)))
      simp only [List.setIfInBounds_toArray, List.set_cons_zero, List.set_cons_succ]
      refine wpAnyH_takeD 3 39 ?_ rfl rfl (by kernel_rfl) (by kernel_rfl) (by kernel_rfl) (fun _ _ _ h => h) (Or.inl ⟨by kernel_rfl, ?_⟩) hHeld ?_
      rotate_left; (intro W hW; (try dsimp only at hW); (first | (go_simp; done) | (go_simp; with_reducible rfl)))
      simp only [List.setIfInBounds_toArray, List.set_cons_zero, List.set_cons_succ]
      refine wpAnyH_takeD 4 40 ?_ rfl rfl (by kernel_rfl) (by kernel_rfl) (by kernel_rfl) (fun _ _ _ h => h) (Or.inl ⟨by kernel_rfl, ?_⟩) hHeld ?_
      rotate_left; (intro W hW; (try dsimp only at hW); (first | (go_simp; done) | (go_simp; with_reducible rfl)))
      simp only [List.setIfInBounds_toArray, List.set_cons_zero, List.set_cons_succ]
      refine wpAnyH_takeD 5 41 ?_ rfl rfl (by kernel_rfl) (by kernel_rfl) (by kernel_rfl) (fun _ _ _ h => h) (Or.inl ⟨by kernel_rfl, ?_⟩) hHeld ?_
      rotate_left; (intro W hW; (try dsimp only at hW); (first | (go_simp; done) | (go_simp; with_reducible rfl)))
      simp only [List.setIfInBounds_toArray, List.set_cons_zero, List.set_cons_succ]
      refine wpAnyH_takeD 6 42 ?_ rfl rfl (by kernel_rfl) (by kernel_rfl) (by kernel_rfl) (fun _ _ _ h => h) (Or.inl ⟨by kernel_rfl, ?_⟩) hHeld ?_
      rotate_left; (intro W hW; (try dsimp only at hW); (first | (go_simp; done) | (go_simp; with_reducible rfl)))
      simp only [List.setIfInBounds_toArray, List.set_cons_zero, List.set_cons_succ]
      refine wpAnyH_takeD 7 43 ?_ rfl rfl (by kernel_rfl) (by kernel_rfl) (by kernel_rfl) (fun _ _ _ h => h) (Or.inl ⟨by kernel_rfl, ?_⟩) hHeld ?_
      rotate_left; (intro W hW; (try dsimp only at hW); (first | (go_simp; done) | (go_simp; with_reducible rfl)))
      simp only [List.setIfInBounds_toArray, List.set_cons_zero, List.set_cons_succ]
      refine wpAnyH_takeD 8 44 ?_ rfl rfl (by kernel_rfl) (by kernel_rfl) (by kernel_rfl) (fun _ _ _ h => h) (Or.inl ⟨by kernel_rfl, ?_⟩) hHeld ?_
      rotate_left; (intro W hW; (try dsimp only at hW); (first | (go_simp; done) | (go_simp; with_reducible rfl)))
      simp only [List.setIfInBounds_toArray, List.set_cons_zero, List.set_cons_succ]
      refine wpAnyH_takeD 9 45 undef rfl rfl (by kernel_rfl) (by kernel_rfl) (by kernel_rfl) (fun _ _ _ h => h) (Or.inr ⟨by kernel_rfl, rfl⟩) hHeld ?_
      simp only [List.setIfInBounds_toArray, List.set_cons_zero, List.set_cons_succ]
      refine wpAnyH_takeD 10 46 undef rfl rfl (by kernel_rfl) (by kernel_rfl) (by kernel_rfl) (fun _ _ _ h => h) (Or.inr ⟨by kernel_rfl, rfl⟩) hHeld ?_
      simp only [List.setIfInBounds_toArray, List.set_cons_zero, List.set_cons_succ]
      refine wpAnyH_takeD 11 47 undef rfl rfl (by kernel_rfl) (by kernel_rfl) (by kernel_rfl) (fun _ _ _ h => h) (Or.inr ⟨by kernel_rfl, rfl⟩) hHeld ?_
      simp only [List.setIfInBounds_toArray, List.set_cons_zero, List.set_cons_succ]
      refine wpAnyH_takeD 12 48 undef rfl rfl (by kernel_rfl) (by kernel_rfl) (by kernel_rfl) (fun _ _ _ h => h) (Or.inr ⟨by kernel_rfl, rfl⟩) hHeld ?_
      simp only [List.setIfInBounds_toArray, List.set_cons_zero, List.set_cons_succ]
      refine wpAnyH_takeD 13 49 undef rfl rfl (by kernel_rfl) (by kernel_rfl) (by kernel_rfl) (fun _ _ _ h => h) (Or.inr ⟨by kernel_rfl, rfl⟩) hHeld ?_
      simp only [List.setIfInBounds_toArray, List.set_cons_zero, List.set_cons_succ]
      refine wpAnyH_takeD 14 50 undef rfl rfl (by kernel_rfl) (by kernel_rfl) (by kernel_rfl) (fun _ _ _ h => h) (Or.inr ⟨by kernel_rfl, rfl⟩) hHeld ?_
      simp only [List.setIfInBounds_toArray, List.set_cons_zero, List.set_cons_succ]
      refine wpAnyH_takeD 15 51 undef rfl rfl (by kernel_rfl) (by kernel_rfl) (by kernel_rfl) (fun _ _ _ h => h) (Or.inr ⟨by kernel_rfl, rfl⟩) hHeld ?_
      simp only [List.setIfInBounds_toArray, List.set_cons_zero, List.set_cons_succ]
      refine wpAnyH_takeD 16 52 undef rfl rfl (by kernel_rfl) (by kernel_rfl) (by kernel_rfl) (fun _ _ _ h => h) (Or.inr ⟨by kernel_rfl, rfl⟩) hHeld ?_
      simp only [List.setIfInBounds_toArray, List.set_cons_zero, List.set_cons_succ]
      refine wpAnyH_takeD 17 53 undef rfl rfl (by kernel_rfl) (by kernel_rfl) (by kernel_rfl) (fun _ _ _ h => h) (Or.inr ⟨by kernel_rfl, rfl⟩) hHeld ?_
      simp only [List.setIfInBounds_toArray, List.set_cons_zero, List.set_cons_succ]
      refine wpAnyH_takeD 18 54 ?_ rfl rfl (by kernel_rfl) (by kernel_rfl) (by kernel_rfl) (fun _ _ _ h => h) (Or.inl ⟨by kernel_rfl, ?_⟩) hHeld ?_
      rotate_left; (intro W hW; (try dsimp only at hW); (first | (go_simp; done) | (go_simp; with_reducible rfl)))
      simp only [List.setIfInBounds_toArray, List.set_cons_zero, List.set_cons_succ]
      refine wpAnyH_takeD 19 55 ?_ rfl rfl (by kernel_rfl) (by kernel_rfl) (by kernel_rfl) (fun _ _ _ h => h) (Or.inl ⟨by kernel_rfl, ?_⟩) hHeld ?_
      rotate_left; (intro W hW; (try dsimp only at hW); (first | (go_simp; done) | (go_simp; with_reducible rfl)))
      simp only [List.setIfInBounds_toArray, List.set_cons_zero, List.set_cons_succ]
      refine wpAnyH_takeD 20 56 ?_ rfl rfl (by kernel_rfl) (by kernel_rfl) (by kernel_rfl) (fun _ _ _ h => h) (Or.inl ⟨by kernel_rfl, ?_⟩) hHeld ?_
      rotate_left; (intro W hW; (try dsimp only at hW); (first | (go_simp; done) | (go_simp; with_reducible rfl)))
      simp only [List.setIfInBounds_toArray, List.set_cons_zero, List.set_cons_succ]
      refine wpAnyH_takeD 21 57 ?_ rfl rfl (by kernel_rfl) (by kernel_rfl) (by kernel_rfl) (fun _ _ _ h => h) (Or.inl ⟨by kernel_rfl, ?_⟩) hHeld ?_
      rotate_left; (intro W hW; (try dsimp only at hW); (first | (go_simp; done) | (go_simp; with_reducible rfl)))
      simp only [List.setIfInBounds_toArray, List.set_cons_zero, List.set_cons_succ]
      refine wpAnyH_takeD 22 58 ?_ rfl rfl (by kernel_rfl) (by kernel_rfl) (by kernel_rfl) (fun _ _ _ h => h) (Or.inl ⟨by kernel_rfl, ?_⟩) hHeld ?_
      rotate_left; (intro W hW; (try dsimp only at hW); (first | (go_simp; done) | (go_simp; with_reducible rfl)))
      simp only [List.setIfInBounds_toArray, List.set_cons_zero, List.set_cons_succ]
      refine wpAnyH_takeD 23 59 ?_ rfl rfl (by kernel_rfl) (by kernel_rfl) (by kernel_rfl) (fun _ _ _ h => h) (Or.inl ⟨by kernel_rfl, ?_⟩) hHeld ?_
      rotate_left; (intro W hW; (try dsimp only at hW); (first | (go_simp; done) | (go_simp; with_reducible rfl)))
      simp only [List.setIfInBounds_toArray, List.set_cons_zero, List.set_cons_succ]
      refine wpAnyH_takeD 24 60 ?_ rfl rfl (by kernel_rfl) (by kernel_rfl) (by kernel_rfl) (fun _ _ _ h => h) (Or.inl ⟨by kernel_rfl, ?_⟩) hHeld ?_
      rotate_left; (intro W hW; (try dsimp only at hW); (first | (go_simp; done) | (go_simp; with_reducible rfl)))
      simp only [List.setIfInBounds_toArray, List.set_cons_zero, List.set_cons_succ]
      refine wpAnyH_takeD 25 61 ?_ rfl rfl (by kernel_rfl) (by kernel_rfl) (by kernel_rfl) (fun _ _ _ h => h) (Or.inl ⟨by kernel_rfl, ?_⟩) hHeld ?_
      rotate_left; (intro W hW; (try dsimp only at hW); (first | (go_simp; done) | (go_simp; with_reducible rfl)))
      simp only [List.setIfInBounds_toArray, List.set_cons_zero, List.set_cons_succ]
      refine wpAnyH_takeD 26 62 undef rfl rfl (by kernel_rfl) (by kernel_rfl) (by kernel_rfl) (fun _ _ _ h => h) (Or.inr ⟨by kernel_rfl, rfl⟩) hHeld ?_
      simp only [List.setIfInBounds_toArray, List.set_cons_zero, List.set_cons_succ]
      refine wpAnyH_takeD 27 63 undef rfl rfl (by kernel_rfl) (by kernel_rfl) (by kernel_rfl) (fun _ _ _ h => h) (Or.inr ⟨by kernel_rfl, rfl⟩) hHeld ?_
      simp only [List.setIfInBounds_toArray, List.set_cons_zero, List.set_cons_succ]
      refine wpAnyH_takeD 28 64 undef rfl rfl (by kernel_rfl) (by kernel_rfl) (by kernel_rfl) (fun _ _ _ h => h) (Or.inr ⟨by kernel_rfl, rfl⟩) hHeld ?_
      simp only [List.setIfInBounds_toArray, List.set_cons_zero, List.set_cons_succ]
      refine wpAnyH_takeD 29 65 undef rfl rfl (by kernel_rfl) (by kernel_rfl) (by kernel_rfl) (fun _ _ _ h => h) (Or.inr ⟨by kernel_rfl, rfl⟩) hHeld ?_
      simp only [List.setIfInBounds_toArray, List.set_cons_zero, List.set_cons_succ]
      refine wpAnyH_takeD 30 66 ?_ rfl rfl (by kernel_rfl) (by kernel_rfl) (by kernel_rfl) (fun _ _ _ h => h) (Or.inl ⟨by kernel_rfl, ?_⟩) hHeld ?_
      rotate_left; (intro W hW; (try dsimp only at hW); (first | (go_simp; done) | (go_simp; with_reducible rfl)))
      simp only [List.setIfInBounds_toArray, List.set_cons_zero, List.set_cons_succ]
      refine wpAnyH_takeD 31 67 ?_ rfl rfl (by kernel_rfl) (by kernel_rfl) (by kernel_rfl) (fun _ _ _ h => h) (Or.inl ⟨by kernel_rfl, ?_⟩) hHeld ?_
      rotate_left; (intro W hW; (try dsimp only at hW); (first | (go_simp; done) | (go_simp; with_reducible rfl)))
      simp only [List.setIfInBounds_toArray, List.set_cons_zero, List.set_cons_succ]
      refine wpAnyH_takeD 32 68 ?_ rfl rfl (by kernel_rfl) (by kernel_rfl) (by kernel_rfl) (fun _ _ _ h => h) (Or.inl ⟨by kernel_rfl, ?_⟩) hHeld ?_
      rotate_left; (intro W hW; (try dsimp only at hW); (first | (go_simp; done) | (go_simp; with_reducible rfl)))
      simp only [List.setIfInBounds_toArray, List.set_cons_zero, List.set_cons_succ]
      refine wpAnyH_ready (rs := [33]) (by kernel_rfl) (by simp) (AllReadyH.cons rfl (fun K hK => ?_) AllReadyH.nil)
      go_simp
      refine hK.out _ _ (keep_signs h1 h2 h3 h4 h5 pz (.inl rfl) _ hHeld) (fun hHeld => ?_)
      clear hK K
      refine wpAnyH_takeD 34 69 ?_ rfl rfl (by kernel_rfl) (by kernel_rfl) (by kernel_rfl) (fun _ _ _ h => h) (Or.inl ⟨by kernel_rfl, ?_⟩) hHeld ?_
      rotate_left; (intro W hW; (try dsimp only at hW); (first | (go_simp; done) | (go_simp; with_reducible rfl)))
      simp only [List.setIfInBounds_toArray, List.set_cons_zero, List.set_cons_succ]
      refine wpAnyH_takeD 35 70 ?_ rfl rfl (by kernel_rfl) (by kernel_rfl) (by kernel_rfl) (fun _ _ _ h => h) (Or.inl ⟨by kernel_rfl, ?_⟩) hHeld ?_
      rotate_left; (intro W hW; (try dsimp only at hW); (first | (go_simp; done) | (go_simp; with_reducible rfl)))
      simp only [List.setIfInBounds_toArray, List.set_cons_zero, List.set_cons_succ]
      refine wpAnyH_ready (rs := [36]) (by kernel_rfl) (by simp) (AllReadyH.cons rfl (fun K hK => ?_) AllReadyH.nil)
      go_simp
      refine hK.out _ _ (keep_signs h1 h2 h3 h4 h5 pr (.inr rfl) _ hHeld) (fun hHeld => ?_)
      clear hK K
      refine wpAnyH_done (by kernel_rfl) ?_ _
      go_wp2_with fail
      go_ret2
      exact qr_end 1 EQ.out ER.out HS.out HS'.out HQ.out HR'.out HG.out HU.out sz sr h1 (by have := HN.out; simp [this.1]) (by have := HN.out; simp [this.2])
end Go.Proofs.YtbmjghgiipibnaaGreatDoor
