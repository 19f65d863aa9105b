/- Chapter 20: the plan of a program; next, ahead. -/
import Derived.Test.YtmmepffdjmpblaaGreatSg2
import Derived.Test.YtmmepffdjmpblaaGreatQi
namespace Go.Proofs.YtmmepffdjmpblaaGreat
set_option linter.unusedVariables false
set_option linter.unusedSimpArgs false
open Go.RowKit
theorem getI_at {W : World} {a : Option Addr} {l : List Int} (h : At W a l) {k : Nat} {x : Int} (hx : l[k]? = some x) : ∃ b off, a = some ⟨b, off, none⟩ ∧ W.cell? ⟨b, off + k, none⟩ = some (.int .i64 x) := getI_eq h (Below.refl _ _) hx
/-- what a plan's cells hold at a place where a block begins -/
theorem plan_rep {f : Fo} (hf : f.ok) {i : Nat} {op fin : OpD} {b r : Fo} (hs : Stands f.flat (matchL f.flat) i (.rep op b fin r)) :
    f.flat[i]? = some op ∧ op.kind = 7 ∧ (matchL f.flat)[i]? = some ((i + b.size + 1 : Nat) : Int) ∧ f.sizes[i]? = some ((b.wr * op.v.toNat : Nat) : Int) ∧ f.rounds[i]? = some (b.wr : Int) ∧ i + b.size + 2 ≤ f.flat.length := by
  have h1 := hs.rep
  have h2 := hs.lt.1
  rw [Fo.size_rep] at h2
  refine ⟨h1.1, h1.2.1, h1.2.2.1, ?_, ?_, by omega⟩
  · rcases place9 hf h1.1 with ⟨h7, b', fin', r', hs', g1, g2, g3⟩ | ⟨h0, _⟩ | ⟨h1', h2', _⟩
    · obtain ⟨_, rfl⟩ := hs.one hs'; exact g1
    · have := h1.2.1; omega
    · have := h1.2.1; omega
  · rcases place9 hf h1.1 with ⟨h7, b', fin', r', hs', g1, g2, g3⟩ | ⟨h0, _⟩ | ⟨h1', h2', _⟩
    · obtain ⟨_, rfl⟩ := hs.one hs'; exact g2
    · have := h1.2.1; omega
    · have := h1.2.1; omega
theorem plan_leaf {f : Fo} (hf : f.ok) {i : Nat} {op : OpD} {r : Fo} (hs : Stands f.flat (matchL f.flat) i (.leaf op r)) :
    f.flat[i]? = some op ∧ 1 ≤ op.kind ∧ op.kind ≤ 6 ∧ f.sizes[i]? = some 1 ∧ i + 1 ≤ f.flat.length := by
  have h1 := hs.leaf
  have h2 := hs.lt.1
  rw [Fo.size_leaf] at h2
  refine ⟨h1.1, h1.2.1, h1.2.2.1, ?_, by omega⟩
  rcases place9 hf h1.1 with ⟨h7, _⟩ | ⟨h0, _⟩ | ⟨h1', h2', g, _⟩
  · have := h1.2.2.1; omega
  · have := h1.2.1; omega
  · exact g
end Go.Proofs.YtmmepffdjmpblaaGreat
