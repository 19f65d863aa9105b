/- append onto an empty literal: a copy. -/
import Derived.Test.YtmmepffdjmpblaaGreatQb
namespace Go.Proofs.YtmmepffdjmpblaaGreat
set_option linter.unusedVariables false
set_option linter.unusedSimpArgs false
open Go.RowKit
theorem wpList_ownAll {α : Type} [Flat α] {P : Program} {ops : Array Oper} {rest : List Oper} {o : Oper} {act : Act} {Q : Exit → Act → World → Prop} {w : World} {T E : TypeId} (ty : Ty P T E α) {l2 : List α} {a2 : Option Addr} {c2 : Nat} (src : At w a2 l2) {s x : Operand} (hgd : o.guard = none)
    (ho : o.op = .call { callee := .builtin .append, args := #[s, x], argTypes := #[T, T] }) {n2 : Nat}
    (hs : act.eval s = .slice (some ⟨w.heap.size, 0, none⟩) 0 0) (hx : act.eval x = .slice a2 n2 c2) (hn2 : n2 = l2.length) (hl2 : n2 ≤ 1000000000)
    (h : ∀ a' c' w', Own w' w.heap.size E a' c' l2 → Below w.heap.size w w' → wpList P ops Q rest (act.put o.dst (.slice a' n2 c')) w') :
    wpList P ops Q (o :: rest) act (w.alloc (.cells #[] E)) := by
  have hb := Below.alloc (Below.refl w.heap.size w) (Nat.le_refl _) (.cells #[] E)
  refine wpList_pushAll ty (Own.new w (Nat.le_refl _) E α) (src.belowN hb) hgd ho hs hx (by simp) hn2 (by simp) (by omega) hl2 ?_
  intro a' c' w' hown hg _
  have := h a' c' w' (by simpa using hown) (below_push hb (Own.new w (Nat.le_refl _) E α) hg (by simp))
  simpa using this
end Go.Proofs.YtmmepffdjmpblaaGreat
