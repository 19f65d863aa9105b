/- How arguments that are slices of duals are opened into lists. -/
import Derived.Test.YthncfoompoheoaaQo
import Derived.Test.YthncfoompoheoaaQr
namespace Go.Proofs.Ythncfoompoheoaa
set_option linter.unusedVariables false
set_option linter.unusedSimpArgs false
open Go.ChangeShapes Go.WideShapes Go.ChangeAt Go.RowKit
instance : Inhabited DuD := ⟨⟨0, 0⟩⟩
section
variable {H : Type} {enc : TypeId × Value → H} {w : World} {base : Nat} {held : Bool}
theorem dec_dual (fuel : Nat) (cs : List Value) (y : DataW H × List MemPlace) (h : DataW.trod enc Try.prog w base (fun _ => true) held fuel 92 cs = some y) : ∃ z : DuD, cs = Flat.enc z ∧ True := by
  obtain ⟨hl, n, hf⟩ := fields_of Try.underlying92 (by kernel_rfl) (by kernel_rfl) h
  obtain ⟨v0, y0, c0, t0⟩ := hf 0 _ rfl
  obtain ⟨v1, y1, c1, t1⟩ := hf 1 _ rfl
  obtain ⟨z0, rfl⟩ := u64_field t0
  obtain ⟨z1, rfl⟩ := u64_field t1
  match cs, hl with
  | [u0, u1], _ =>
    simp at c0 c1
    subst c0 c1
    exact ⟨⟨z0, z1⟩, rfl, trivial⟩
theorem open_duals {fuel : Nat} {cs : List Value} {x : DataW H × List MemPlace} (h : DataW.trod enc Try.prog w base (fun _ => true) held fuel 50 cs = some x) :
    ∃ (a : Option Addr) (c : Nat) (l : List DuD), cs = [.slice a l.length c] ∧ l.length ≤ c ∧ c ≤ maxLen ∧ At w a l ∧ ∀ z ∈ l, True :=
  open_flat Try.underlying50 (by kernel_rfl) _ dec_dual h
end
end Go.Proofs.Ythncfoompoheoaa
