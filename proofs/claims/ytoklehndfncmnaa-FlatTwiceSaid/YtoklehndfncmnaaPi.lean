/- append of one element, within a fence. -/
import Derived.RangeFuncNested
import Derived.RangeFuncBound
import Derived.RangeFuncCalls
import Derived.RangeFuncLeaves
import Derived.Shelf.Abstract
import Derived.WalkKit
import Derived.OwnWalkIn
import Derived.TacticsInMore
import Derived.LoopNIn
import Derived.LoopIn
import Derived.Test.YtoklehndfncmnaaRf
namespace Go.Proofs.Ytoklehndfncmnaa
set_option linter.unusedVariables false
set_option linter.unusedSimpArgs false
open Go.RowKit
section
variable {P : Program} {ops : Array Oper} {rest : List Oper} {o : Oper} {act : Act} {Q : Exit → Act → World → Prop} {α : Type} [Flat α]
theorem wpListIn_push {F : Fence} {m : Nat} {w : World} {T E : TypeId} (ty : Ty P T E α) {B : Nat} {a : Option Addr} {c : Nat} {l : List α} (own : Own w B E a c l) (y : α) {s x : Operand} {cs : Array Value} (hgd : o.guard = none)
    (ho : o.op = .call { callee := .builtin .append, args := #[s, x], argTypes := #[T, T] }) (hcs : cs.toList = Flat.enc y)
    {n k : Nat} (hs : act.eval s = .slice a n c) (hx : act.eval x = .slice (some ⟨k, 0, none⟩) 1 1) (hk : k = w.heap.size) (hn : n = l.length) (hB : B ≤ w.heap.size) (hl : n ≤ 1000000000)
    (h : ∀ a' c' w', Own w' B E a' c' (l ++ [y]) → w.grownBy w' (a.map (·.block)) → (a'.map (·.block) = a.map (·.block) ∨ ∃ g, a'.map (·.block) = some g ∧ w.heap.size ≤ g) → wpListIn F m P ops Q rest (act.put o.dst (.slice a' (n + 1) c')) w') :
    wpListIn F m P ops Q (o :: rest) act (w.alloc (.cells cs E)) := by
  subst hn hk
  obtain ⟨i, z, hi, hz, hsz, hby, hzs⟩ := ty.info
  refine wpListIn_plain hgd fun K hK => ?_
  have own1 : (w.alloc (.cells cs E)).ownsRow B E (Flat.n α) (.slice a l.length c) l.length (l.flatMap Flat.enc) := World.ownsRow.alloc own _
  have hn : cs.toList.length = 1 * Flat.n α := by rw [hcs, Flat.len, Nat.one_mul]
  have hnews : ∀ j u, cs.toList[j]? = some u → (w.alloc (.cells cs E)).cell? ((⟨w.heap.size, 0, none⟩ : Addr).add j) = some u := by
    intro j u hu
    rw [addr_add, cell_of_row _ w.heap.size (0 + j) cs E (0, 0) (heap_alloc_new w _)]
    simpa using hu
  obtain ⟨v', w', hr, h2, h3, _, h5⟩ := run_append_own_at (P := P) (w.alloc (.cells cs E)) B T o.type E i z (Flat.n α) i.bytes ty.und hi hz hsz rfl hzs Flat.pos _ _ _ own1 ⟨w.heap.size, 0, none⟩ 1 1 cs.toList hn hnews
    (by rw [hcs]; exact Flat.one y) (by simp only [maxLen]; omega) (Nat.le_trans (Nat.mul_le_mul (show l.length + 1 ≤ 1000000001 by omega) hby) (by decide)) (by simp; omega)
  have hblk : w.grownBy w' (a.map (·.block)) := by
    have e : Value.ownBlock (.slice a l.length c) = a.map (·.block) := by cases a <;> rfl
    rw [e] at h3
    exact ⟨h3.os, h3.tape, h3.output, Nat.le_trans (by simp) h3.size, fun k hk hne => (h3.block k (by simp; omega) hne).trans (Below.heap_alloc w _ k hk)⟩
  have hform : ∃ a' c', v' = .slice a' (l.length + 1) c' := by
    rcases h2.2 with ⟨rfl, h0⟩ | ⟨g, cap, cur, rfl, _⟩
    · omega
    · exact ⟨_, _, rfl⟩
  obtain ⟨a', c', rfl⟩ := hform
  have hgoal : Own w' B E a' c' (l ++ [y]) := ?own
  have hgoal2 : a'.map (·.block) = a.map (·.block) ∨ ∃ g, a'.map (·.block) = some g ∧ w.heap.size ≤ g := ?two
  unfold Oper.wpIn
  refine ⟨?_, ?_⟩
  · simp [Oper.about, ho, resolve, Target.leads, Sem.run_pure]
  · rw [Oper.semAt_plain F _ _ (by rw [ho]; intro c hc'; cases hc')]
    unfold execOp
    simp only [ho, resolve, invoke, builtin, Sem.run_bind, Sem.run_pure, Result.andThen_ok, List.map_toArray, List.map_cons, List.map_nil, hs, hx, hr]
    exact hK _ _ (h a' c' w' hgoal hblk hgoal2)
  case own =>
    unfold Own
    rw [List.flatMap_append, List.length_append]
    simpa [← hcs] using h2
  case two =>
    have e : Value.ownBlock (.slice a l.length c) = a.map (·.block) := by cases a <;> rfl
    have e' : Value.ownBlock (.slice a' (l.length + 1) c') = a'.map (·.block) := by cases a' <;> rfl
    rcases h5 with h5 | h5
    · left; rw [← e, ← e', h5]
    · right; exact ⟨_, by rw [← e', h5], by simp⟩
end
end Go.Proofs.Ytoklehndfncmnaa
