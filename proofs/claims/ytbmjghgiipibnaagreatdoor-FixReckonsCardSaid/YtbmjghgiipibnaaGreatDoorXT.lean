/- A LAW FOR A REGION THAT DRAWS ITS ORDER: its loads in the order of the text, under one condition on the world; a call that makes memory among them; a forced tail behind them, whose world need not meet the condition. -/
import Derived.StillTail
import Derived.OrdersHeld
import Derived.WalkKit
import Derived.Lib.Hide
import Derived.RegionTactic
namespace Go.Proofs.YtbmjghgiipibnaaGreatDoor
open Go Go.RowKit

section
variable {P : Program} {ops : Array Oper} {Q : Exit → Act → World → Prop} {md : Region.Mode} {S : World → Prop}

def wpAnyLH (P : Program) (md : Region.Mode) (ops : Array Oper) (Q : Exit → Act → World → Prop) (S : World → Prop) (n : Nat) (L : Array Bool → Act → World → Prop) : Nat → Array Bool → Act → World → Prop
  | 0, listed, a, w => L listed a w
  | f + 1, listed, a, w =>
    Region.ready md ops listed ≠ [] ∧ ∀ i ∈ Region.ready md ops listed, i < n ∧ wpOp P ops Q i (fun a' w' => S w' ∧ wpAnyLH P md ops Q S n L f (listed.setIfInBounds i true) a' w') a w

theorem wpAny_of_headH {n g : Nat} {L : Array Bool → Act → World → Prop} (hL : ∀ listed a w, L listed a w → wpAny P md ops Q g listed a w) :
    ∀ (f : Nat) (listed : Array Bool) (a : Act) (w : World), wpAnyLH P md ops Q S n L f listed a w → wpAny P md ops Q (f + g) listed a w
  | 0, listed, a, w, h => by rw [Nat.zero_add]; exact hL _ _ _ h
  | f + 1, listed, a, w, h => by
    rw [show f + 1 + g = (f + g) + 1 by omega]
    exact ⟨fun h0 => absurd h0 h.1, fun i hi => wpOp_mono (fun a' w' h' => wpAny_of_headH hL f _ a' w' h'.2) (h.2 i hi).2⟩

theorem wpAnyLH_first {n i : Nat} {oi : Oper} {v : Value} {L : Array Bool → Act → World → Prop} (hi : ops[i]? = some oi) (hsel : ∀ (j : Nat) (o : Oper) cs b, ops[j]? = some o → o.op ≠ .select cs b)
    (hs : Region.sinkB md ops n = true) (hc : Region.chainB md ops n = true) (hn : n < ops.size) (hin : i < n)
    (hQ : ∀ c a w, Q (.panic c) (a.put oi.dst v) w → Q (.panic c) a w)
    (hdone : ∀ listed a w, L listed a w → ∀ j ∈ Region.ready md ops listed, n ≤ j) :
    ∀ (f : Nat) (listed : Array Bool) (a : Act) (w : World), HeadInv md ops n listed →
      (∀ j oj, ops[j]? = some oj → j ≠ i → listed.getD j true = false → (∀ e ∈ oj.after, Region.binds md e = true → e.on ≠ i) → oi.apart ops oj = true) →
      i ∈ Region.ready md ops listed → YieldsIf P ops S oi v a → S w →
      wpAnyLH P md ops Q S n L f (listed.setIfInBounds i true) (a.put oi.dst v) w → wpAnyLH P md ops Q S n L (f + 1) listed a w := by
  intro f
  induction f with
  | zero =>
    intro listed a w inv _ hr hy hS H
    have hun := (mem_ready.1 hr).1
    refine ⟨fun h => (by rw [h] at hr; cases hr), fun j hj => ?_⟩
    have hjn : j < n := by
      rcases Nat.lt_or_ge j n with h | h
      · exact h
      · exact absurd hj (tail_waits hs hc hn inv _ i rfl hin hun j h)
    refine ⟨hjn, ?_⟩
    by_cases hji : j = i
    · subst hji; exact hy.wpOp hi hS ⟨hS, H⟩
    · have := hdone _ _ _ H j (ready_mono hj hji)
      omega
  | succ f ih =>
    intro listed a w inv hfree hr hy hS H
    have hun := (mem_ready.1 hr).1
    refine ⟨fun h => (by rw [h] at hr; cases hr), fun j hj => ?_⟩
    have hjn : j < n := by
      rcases Nat.lt_or_ge j n with h | h
      · exact h
      · exact absurd hj (tail_waits hs hc hn inv _ i rfl hin hun j h)
    refine ⟨hjn, ?_⟩
    by_cases hji : j = i
    · subst hji; exact hy.wpOp hi hS ⟨hS, H⟩
    · have h1 := (H.2 j (ready_mono hj hji)).2
      obtain ⟨hjun, oj, hoj, hall⟩ := mem_ready.1 hj
      have hnot : ∀ e ∈ oj.after, Region.binds md e = true → e.on ≠ i := fun e he hb heq => by
        have h1 := hall e he hb
        rw [heq, getD_both hun] at h1
        cases h1
      have h2 := wpOp_putIf hoj (hfree j oj hoj hji hjun hnot) (fun cs b => hsel i oi cs b hi) (fun cs b => hsel j oj cs b hoj) hQ hy h1
      have hfree' : ∀ k ok, ops[k]? = some ok → k ≠ i → (listed.setIfInBounds j true).getD k true = false →
          (∀ e ∈ ok.after, Region.binds md e = true → e.on ≠ i) → oi.apart ops ok = true := fun k ok hk hki hun hno => by
        refine hfree k ok hk hki ?_ hno
        by_cases hjk : j = k
        · subst hjk; exact hjun
        · rw [getD_set_ne true hjk] at hun; exact hun
      refine wpOp_mono (fun a' w' h3 => ⟨h3.2.1, ih (listed.setIfInBounds j true) a' w' (inv.set hj hjn) hfree' (ready_mono hr (Ne.symm hji)) h3.1 h3.2.1 ?_⟩) h2
      rw [Array.setIfInBounds_comm _ _ hji]
      exact h3.2.2

/-- the head's operations in the text's order: 'true': it yields in every world that meets S; 'false': it comes up alone, S is shown behind it -/
def wpScript (P : Program) (ops : Array Oper) (Q : Exit → Act → World → Prop) (S : World → Prop) (K : Act → World → Prop) : List (Bool × Oper) → Nat → Act → World → Prop
  | [], _, a, w => K a w
  | (true, o) :: r, k, a, w => ∃ v, YieldsIf P ops S o v a ∧ wpScript P ops Q S K r (k + 1) (a.put o.dst v) w
  | (false, _) :: r, k, a, w => wpOp P ops Q k (fun a' w' => S w' ∧ wpScript P ops Q S K r (k + 1) a' w') a w

def scriptB (md : Region.Mode) (ops : Array Oper) (g : Nat) : List Bool → Nat → Array Bool → Bool
  | [], k, listed => Region.seqB md ops g k listed
  | true :: r, k, listed => (Region.ready md ops listed).contains k && Region.free md ops listed k && scriptB md ops g r (k + 1) (listed.setIfInBounds k true)
  | false :: r, k, listed => decide (Region.ready md ops listed = [k]) && scriptB md ops g r (k + 1) (listed.setIfInBounds k true)

def scriptAllB (md : Region.Mode) (ops : Array Oper) (marks : List Bool) : Bool :=
  Region.noSelect ops && decide (marks.length < ops.size) && Region.sinkB md ops marks.length && Region.chainB md ops marks.length && scriptB md ops (ops.size - marks.length) marks 0 (Array.replicate ops.size false)

theorem wpAnyLH_script {n g : Nat} {K : Act → World → Prop} (hsel : Region.noSelect ops = true) (hs : Region.sinkB md ops n = true) (hc : Region.chainB md ops n = true) (hn : n < ops.size)
    (hQ : ∀ c a d v w, Q (.panic c) (Act.put a d v) w → Q (.panic c) a w) :
    ∀ (l : List (Bool × Oper)) (k : Nat) (listed : Array Bool) (a : Act) (w : World), (∀ j, j < l.length → (l[j]?).map (·.2) = ops[k + j]?) → k + l.length = n → HeadInv md ops n listed → S w →
    scriptB md ops g (l.map (·.1)) k listed = true → wpScript P ops Q S K l k a w →
    wpAnyLH P md ops Q S n (fun listed' a' w' => Region.seqB md ops g n listed' = true ∧ K a' w') l.length listed a w
  | [], k, listed, a, w, _, hk, _, _, hB, h => by
    have : k = n := by simpa using hk
    subst this
    exact ⟨by simpa [scriptB] using hB, h⟩
  | (true, o) :: l, k, listed, a, w, hl, hk, inv, hS, hB, h => by
    have h0 : ops[k]? = some o := by simpa using (hl 0 (by simp)).symm
    simp only [List.map_cons, scriptB, Bool.and_eq_true] at hB
    obtain ⟨⟨hr, hf⟩, hB'⟩ := hB
    have hkn : k < n := by simp only [List.length_cons] at hk; omega
    have hr' : k ∈ Region.ready md ops listed := by simpa using hr
    obtain ⟨v, hy, hK⟩ := h
    exact wpAnyLH_first h0 (Region.noSelect_spec hsel) hs hc hn hkn (fun c a w => hQ c a _ v w) (fun listed' a' w' hL => seqB_ready hL.1) l.length listed a w inv (Region.free_spec h0 hf) hr' hy hS
      (wpAnyLH_script hsel hs hc hn hQ l (k + 1) _ _ w (fun j hj => by have := hl (j + 1) (by simp; omega); simpa [Nat.add_assoc, Nat.add_comm 1 j] using this) (by simp only [List.length_cons] at hk; omega) (inv.set hr' hkn) hS hB' hK)
  | (false, o) :: l, k, listed, a, w, hl, hk, inv, hS, hB, h => by
    simp only [List.map_cons, scriptB, Bool.and_eq_true, decide_eq_true_eq] at hB
    obtain ⟨hr, hB'⟩ := hB
    have hkn : k < n := by simp only [List.length_cons] at hk; omega
    have hr' : k ∈ Region.ready md ops listed := by rw [hr]; simp
    refine ⟨by rw [hr]; simp, fun i hi => ?_⟩
    rw [hr] at hi
    obtain rfl : i = k := by simpa using hi
    refine ⟨hkn, wpOp_mono (fun a' w' h' => ⟨h'.1, ?_⟩) h⟩
    exact wpAnyLH_script hsel hs hc hn hQ l (i + 1) _ a' w' (fun j hj => by have := hl (j + 1) (by simp; omega); simpa [Nat.add_assoc, Nat.add_comm 1 j] using this) (by simp only [List.length_cons] at hk; omega) (inv.set hr' hkn) h'.1 hB' h'.2

theorem wp_region_script {id : Nat} {a : Act} {w : World} {l : List Oper} (marks : List Bool) (hm : P.follows .mixedOrders = true) (hB : scriptAllB .any l.toArray marks = true)
    (hQ : ∀ c a d v w, Q (.panic c) (Act.put a d v) w → Q (.panic c) a w) (hS : S w.drew)
    (h : wpScript P l.toArray Q S (fun a' w' => wpList P l.toArray Q (l.drop marks.length) a' w') (marks.zip l) 0 a w.drew) : (Code.region id l.toArray true).wp P Q a w := by
  simp only [scriptAllB, Bool.and_eq_true, decide_eq_true_eq] at hB
  obtain ⟨⟨⟨⟨hsel, hn⟩, hs⟩, hc⟩, hlex⟩ := hB
  have hn' : marks.length < l.length := by simpa using hn
  have hzl : (marks.zip l).length = marks.length := by simp; omega
  have hmap : (marks.zip l).map (·.1) = marks := List.map_fst_zip (by omega)
  have hdl : (l.drop marks.length).length = l.toArray.size - marks.length := by simp
  have inv0 : HeadInv .any l.toArray marks.length (Array.replicate l.toArray.size false) :=
    ⟨by simp, fun j oj _ hl => (by rw [getD_replicate_false] at hl; cases hl), fun t _ ht => getD_in (by simpa using ht) (getD_replicate_false _ _)⟩
  have H := wpAnyLH_script (md := .any) (g := l.toArray.size - marks.length) hsel hs hc hn hQ (marks.zip l) 0 _ a w.drew (fun j hj => by
    have hj' : j < marks.length := by rw [hzl] at hj; exact hj
    rw [List.getElem?_eq_getElem hj, List.getElem_zip, List.getElem?_toArray, Nat.zero_add, List.getElem?_eq_getElem (show j < l.length by omega)]
    rfl) (by simpa using hzl) inv0 hS (by rw [hmap]; exact hlex) h
  refine wp_region_any hm ?_
  have := wpAny_of_headH (Q := Q) (g := l.toArray.size - marks.length) (fun listed a' w' hL => by
    rw [← hdl]
    exact wpAny_of_seq (l.drop marks.length) marks.length listed a' w' (fun j => by simp) (by rw [hdl]; exact hL.1) hL.2) _ _ _ _ H
  rw [hzl] at this
  rw [show marks.length + (l.toArray.size - marks.length) = l.toArray.size by simp; omega] at this
  exact this

theorem wpScript_take {K : Act → World → Prop} {o : Oper} {r : List (Bool × Oper)} {k : Nat} {a : Act} {w : World} (v : Value) (hy : YieldsIf P ops S o v a)
    (h : wpScript P ops Q S K r (k + 1) (a.put o.dst v) w) : wpScript P ops Q S K ((true, o) :: r) k a w := ⟨v, hy, h⟩
theorem wpScript_op {K : Act → World → Prop} {o : Oper} {r : List (Bool × Oper)} {k : Nat} {a : Act} {w : World} (ho : ops[k]? = some o)
    (h : ∀ K' : Act → World → Prop, Hid (∀ a w, S w → wpScript P ops Q S K r (k + 1) a w → K' a w) → if Region.wanted o (yielded ops a.tmps) = true then Oper.wp P o a w K' Q else K' (a.put o.dst undef) w) :
    wpScript P ops Q S K ((false, o) :: r) k a w := wpOp_step ho fun K' hK => h K' (Lib.hid fun a w hS hs => hK a w ⟨hS, hs⟩)
theorem wpScript_nil {K : Act → World → Prop} {k : Nat} {a : Act} {w : World} (h : K a w) : wpScript P ops Q S K [] k a w := h
end
end Go.Proofs.YtbmjghgiipibnaaGreatDoor
