/- How arguments that are programs are opened into lists. -/
import Derived.Test.YtoklehndfncmnaaOpen2
namespace Go.Proofs.Ytoklehndfncmnaa
set_option linter.unusedVariables false
set_option linter.unusedSimpArgs false
open Go.ChangeShapes Go.WideShapes Go.ChangeAt Go.RowKit
section
variable {H : Type} {enc : TypeId × Value → H} {w : World} {base : Nat} {held : Bool}
theorem open_prog {fuel : Nat} {cs : List Value} {x : DataW H × List MemPlace} (h : DataW.trod enc Try.prog w base (fun _ => true) held fuel 24 cs = some x) :
    ∃ (regs : Int) (a : Option Addr) (c : Nat) (l : List OpD), cs = [.int .i64 regs, .slice a l.length c] ∧ i64ok regs ∧ l.length ≤ c ∧ c ≤ maxLen ∧ At w a l ∧ ∀ z ∈ l, i64ok z.kind ∧ i64ok z.d ∧ i64ok z.a ∧ i64ok z.b := by
  obtain ⟨hl, n, hf⟩ := fields_of Try.underlying24 (by kernel_rfl) (by kernel_rfl) h
  obtain ⟨v0, y0, c0, t0⟩ := hf 0 _ rfl
  obtain ⟨v1, y1, c1, t1⟩ := hf 1 _ rfl
  obtain ⟨z0, rfl, b0⟩ := int_field t0
  obtain ⟨a, c, l, e, h1, h2, h3, h4⟩ := open_ops t1
  match cs, hl with
  | [u0, u1], _ =>
    simp at c0 c1 e
    subst c0 c1 e
    exact ⟨z0, a, c, l, rfl, b0, h1, h2, h3, h4⟩
end
end Go.Proofs.Ytoklehndfncmnaa
