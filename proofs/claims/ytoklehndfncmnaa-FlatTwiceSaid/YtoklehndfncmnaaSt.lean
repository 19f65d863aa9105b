/- append at a step of a region that draws its order. -/
import Derived.Deep.RegionHeld3
import Derived.Test.YtoklehndfncmnaaPre
namespace Go.Proofs.Ytoklehndfncmnaa
set_option linter.unusedVariables false
set_option linter.unusedSimpArgs false
open Go.RowKit
theorem Own.made {α : Type} [Flat α] {B : Nat} (w : World) (hB : B ≤ w.heap.size) (E : TypeId) (cs : Array Value) (l : List α) (hcs : cs.toList = l.flatMap Flat.enc) (hl : l.length ≤ maxLen) (c : Nat) (hc : c = l.length) : Own (w.alloc (.cells cs E)) B E (some ⟨w.heap.size, 0, .none⟩) c l := by
  subst hc
  have hz : cs.size = l.length * Flat.n α := by rw [← Array.length_toList, hcs, enc_length]
  exact ⟨enc_length l, .inr ⟨w.heap.size, l.length, cs, rfl, hB, heap_alloc_new w _, Nat.le_refl _, hl, hz, by rw [hcs, List.take_of_length_le (by rw [enc_length]; exact Nat.le_refl _)]⟩⟩
section
variable {P : Program} {ops : Array Oper} {o : Oper} {act : Act} {K : Act → World → Prop} {Q : Exit → Act → World → Prop} {E' : Prop} {α : Type} [Flat α]
theorem step_pushAll {w : World} {T E : TypeId} (ty : Ty P T E α) {B : Nat} {a : Option Addr} {c : Nat} {l : List α} (own : Own w B E a c l) {a2 : Option Addr} {c2 : Nat} {l2 : List α} (src : At w a2 l2) {s x : Operand} (hgd : o.guard = none)
    (ho : o.op = .call { callee := .builtin .append, args := #[s, x], argTypes := #[T, T] })
    {n n2 : Nat} (hs : act.eval s = .slice a n c) (hx : act.eval x = .slice a2 n2 c2) (hn : n = l.length) (hn2 : n2 = l2.length) (hB : B ≤ w.heap.size) (hl : n ≤ 1000000000) (hl2 : n2 ≤ 1000000000)
    (h : ∀ a' c' w', Own w' B E a' c' (l ++ l2) → w.grownBy w' (a.map (·.block)) → (a'.map (·.block) = a.map (·.block) ∨ ∃ g, a'.map (·.block) = some g ∧ w.heap.size ≤ g) → K (act.put o.dst (.slice a' (n + n2) c')) w') :
    if Region.wanted o (yielded ops act.tmps) = true then Oper.wp P o act w K Q else E' := by
  have hw : Region.wanted o (yielded ops act.tmps) = true := by simp [Region.wanted, hgd]
  rw [if_pos hw]
  subst hn hn2
  obtain ⟨a', c', w', hr, h1, h2, h3⟩ := run_append_all ty own src o.type hB hl hl2 (c2 := c2)
  unfold Oper.wp execOp
  simp only [ho, resolve, invoke, builtin, Sem.run_bind, Sem.run_pure, Result.andThen_ok, List.map_toArray, List.map_cons, List.map_nil, hs, hx, hr]
  exact h a' c' w' h1 h2 h3
theorem wpListG_pushAll {rest : List Oper} {Q : Exit → Act → World → Prop} {w : World} {T E : TypeId} (ty : Ty P T E α) {B : Nat} {a : Option Addr} {c : Nat} {l : List α} (own : Own w B E a c l) {a2 : Option Addr} {c2 : Nat} {l2 : List α} (src : At w a2 l2) {s x : Operand} (hgd : Region.wanted o (yielded ops act.tmps) = true)
    (ho : o.op = .call { callee := .builtin .append, args := #[s, x], argTypes := #[T, T] })
    {n n2 : Nat} (hs : act.eval s = .slice a n c) (hx : act.eval x = .slice a2 n2 c2) (hn : n = l.length) (hn2 : n2 = l2.length) (hB : B ≤ w.heap.size) (hl : n ≤ 1000000000) (hl2 : n2 ≤ 1000000000)
    (h : ∀ a' c' w', Own w' B E a' c' (l ++ l2) → w.grownBy w' (a.map (·.block)) → (a'.map (·.block) = a.map (·.block) ∨ ∃ g, a'.map (·.block) = some g ∧ w.heap.size ≤ g) → wpList P ops Q rest (act.put o.dst (.slice a' (n + n2) c')) w') :
    wpList P ops Q (o :: rest) act w := by
  subst hn hn2
  refine BigFrame.wpList_want hgd fun K hK => ?_
  obtain ⟨a', c', w', hr, h1, h2, h3⟩ := run_append_all ty own src o.type hB hl hl2 (c2 := c2)
  unfold Oper.wp execOp
  simp only [ho, resolve, invoke, builtin, Sem.run_bind, Sem.run_pure, Result.andThen_ok, List.map_toArray, List.map_cons, List.map_nil, hs, hx, hr]
  exact hK _ _ (h a' c' w' h1 h2 h3)
end
end Go.Proofs.Ytoklehndfncmnaa
