/- Chapter 21, the document's answers: Record, Undo. -/
import Derived.Test.YthncfoompoheoaaR21a
namespace Go.Proofs.Ythncfoompoheoaa
set_option linter.unusedVariables false
set_option linter.unusedSimpArgs false
open Go.RowKit

theorem tpR_take (l : List OpD) (r t : List UInt64) {k : Nat} {x : OpD} (h : l[k]? = some x) (hk : k < t.length) : tpR (l.take (k + 1)) r t = (tpR (l.take k) r t).set k (getR (runR (l.take k) r) x.d) := by
  have hl : (l.take k).length = k := by have := (List.getElem?_eq_some_iff.1 h).1; simp; omega
  rw [List.take_add_one, h]
  show tpR (l.take k ++ [x]) r t = _
  rw [tpR_snoc _ _ _ _ (by omega), hl]
theorem good_inR {regs : Int} {f : Fo} (g : Good regs f) : ∀ x ∈ f.unroll, InR regs x := fun x hx => by
  obtain ⟨h1, h2, h3⟩ := f.unroll_mem g.ok x hx
  exact g.inF x h1 h2 h3
end Go.Proofs.Ythncfoompoheoaa
