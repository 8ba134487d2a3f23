/- WALKS of marchlandbig: twin, cmp. -/
import Derived.Test.YtbmjghgiipibnaaGreatDoorXD
import Derived.Laws.AppendOwn
import Derived.Deep.AppendLies
import Derived.Deep.QuietTactic
import Derived.BigQuiet
namespace Go.Proofs.YtbmjghgiipibnaaGreatDoor
open Go.RowKit
set_option linter.unusedVariables false

theorem info76 : (Tryz.prog.info? 76).map (fun i => (i.zero, i.size, i.bytes)) = some (some (.int .u32 0), 1, 4) := by kernel_rfl

theorem twin_nil (a : Option Addr) (c : Nat) (w : World) : (Builtin.append_ #[58, 58] 58 #[.slice none 0 0, .slice a 0 c]).run Tryz.prog w = .ok (.slice none 0 0) w := by
  obtain ⟨i0, hi, hz0, hz1, hz2⟩ := info_parts info76
  cases a <;> simp [Builtin.append_, run_underlying Tryz.underlying58, sizeOf, typeInfo, hi, Builtin.lenOf, Builtin.firstCells, loadCells, loadCellsFrom]

set_option maxRecDepth 100000 in
theorem twin_row (g m c : Nat) (news : List Value) (w : World) (hm : 0 < m) (hm2 : m ≤ 3) (hl : news.length = m * 1) (hnews : ∀ j u, news[j]? = some u → w.cell? ((⟨g, 0, none⟩ : Addr).add j) = some u) (h1 : ∀ u ∈ news, u.oneCell' = true) :
    ∃ g' c' w', (Builtin.append_ #[58, 58] 58 #[.slice none 0 0, .slice (some ⟨g, 0, none⟩) m c]).run Tryz.prog w = .ok (.slice (some ⟨g', 0, none⟩) m c') w' ∧ (∀ j u, news[j]? = some u → w'.cell? ⟨g', j, none⟩ = some u) ∧ Below w.heap.size w w' := by
  obtain ⟨i0, hi, hz0, hz1, hz2⟩ := info_parts info76
  obtain ⟨v', w', hr, ho, hg, _⟩ := run_append_own (P := Tryz.prog) w w.heap.size 58 58 76 i0 (.int .u32 0) 1 4 Tryz.underlying58 hi hz0 hz1 hz2 rfl (by omega) (.slice none 0 0) 0 [] (World.ownsRow_nil _ _ _ _) ⟨g, 0, none⟩ m c news hl hnews h1 (by unfold maxLen; omega) (by omega) (Nat.le_refl _)
  obtain ⟨g', c', rfl, hb, _⟩ := ho.form (by omega)
  refine ⟨g', c', w', by simpa using hr, fun j u hj => ?_, (Below.refl _ _).grown hg (Nat.le_refl _) (by simp [Value.ownBlock])⟩
  have := ho.cells (g := g') rfl j u (by simpa using hj)
  rwa [Addr.add_lit, Nat.zero_add] at this

/-- what append(nil, a...) gives -/
theorem twin_run {w : World} {a : Option Addr} {l c n : Nat} (h : Nb w (.slice a l c) n) : ∃ a' c' w', (Builtin.append_ #[58, 58] 58 #[.slice none 0 0, .slice a l c]).run Tryz.prog w = .ok (.slice a' l c') w' ∧ Nb w' (.slice a' l c') n ∧ Below w.heap.size w w' := by
  rcases h with ⟨rfl, a', c', hv⟩ | ⟨g, c', hv, b, d, e⟩ | ⟨g, c', lo, hi, hv, hn, d, e, f, k, l⟩ | ⟨g, c', x0, x1, x2, hv, hn, d, e, f, k, l, m, o⟩
  · cases hv
    exact ⟨none, 0, w, twin_nil a c w, .inl ⟨rfl, _, _, rfl⟩, Below.refl _ _⟩
  · cases hv
    obtain ⟨g', c', w', hr, hc, hb⟩ := twin_row g 1 c [.int .u32 n] w (by omega) (by omega) rfl (fun j u hj => by
      rcases j with _ | j
      · simp at hj; subst hj; exact e
      · simp at hj) (fun u hu => by simp at hu; subst hu; rfl)
    exact ⟨_, _, w', hr, .inr (.inl ⟨g', c', rfl, b, d, hc 0 _ rfl⟩), hb⟩
  · cases hv
    obtain ⟨g', c', w', hr, hc, hb⟩ := twin_row g 2 c [.int .u32 lo, .int .u32 hi] w (by omega) (by omega) rfl (fun j u hj => by
      rcases j with _ | _ | j
      · simp at hj; subst hj; exact k
      · simp at hj; subst hj; rw [Addr.add_lit]; exact l
      · simp at hj) (fun u hu => by simp at hu; rcases hu with rfl | rfl <;> rfl)
    exact ⟨_, _, w', hr, .inr (.inr (.inl ⟨g', c', lo, hi, rfl, hn, d, e, f, hc 0 _ rfl, hc 1 _ rfl⟩)), hb⟩
  · cases hv
    obtain ⟨g', c', w', hr, hc, hb⟩ := twin_row g 3 c [.int .u32 x0, .int .u32 x1, .int .u32 x2] w (by omega) (by omega) rfl (fun j u hj => by
      rcases j with _ | _ | _ | j
      · simp at hj; subst hj; exact l
      · simp at hj; subst hj; rw [Addr.add_lit]; exact m
      · simp at hj; subst hj; rw [Addr.add_lit]; exact o
      · simp at hj) (fun u hu => by simp at hu; rcases hu with rfl | rfl | rfl <;> rfl)
    exact ⟨_, _, w', hr, .inr (.inr (.inr ⟨g', c', x0, x1, x2, rfl, hn, d, e, f, k, hc 0 _ rfl, hc 1 _ rfl, hc 2 _ rfl⟩)), hb⟩

theorem wpList_append_ran {P : Program} {w : World} {ops : Array Oper} {rest : List Oper} {o : Oper} {a : Act} {Q : Exit → Act → World → Prop} (hgd : o.guard = none) (s x : Operand) (t : TypeId)
    (ho : o.op = .call { callee := .builtin .append, args := #[s, x], argTypes := #[t, t] }) (u v r : Value) (w' : World) (hs : a.eval s = u) (hx : a.eval x = v)
    (hr : (Builtin.append_ #[t, t] o.type #[u, v]).run P w = .ok r w') (h : wpList P ops Q rest (a.put o.dst r) w') : wpList P ops Q (o :: rest) a w := by
  refine wpList_plain hgd fun K hK => ?_
  unfold Oper.wp execOp
  simp only [ho, resolve, invoke, builtin, Sem.run_bind, Sem.run_pure, Result.andThen_ok, List.map_toArray, List.map_cons, List.map_nil, hs, hx, hr]
  exact hK _ _ h

theorem twin_any {w : World} {a : Option Addr} {l c n : Nat} (h : Nb w (.slice a l c) n) : Calls Tryz.prog 53 #[.slice a l c] w (NbNew w n) := by
  obtain ⟨a', c', w', hr, hn, hb⟩ := twin_run h
  have HN := Lib.hid hn
  have HB := Lib.hid hb
  have HR := Lib.hid hr
  clear h hn hb hr
  go_enter Tryz.func53, Tryz.ntmps53
  go_wp2_with (at_builtin; refine wpList_append_ran rfl _ _ 58 rfl _ _ _ _ rfl rfl HR.out ?_)
  go_ret
  exact ⟨_, _, _, rfl, HN.out, HB.out⟩
end Go.Proofs.YtbmjghgiipibnaaGreatDoor
