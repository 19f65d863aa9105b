/- Chapter 8: Around. -/
import Derived.Test.YtoklehndfncmnaaN8d
namespace Go.Proofs.Ytoklehndfncmnaa
set_option linter.unusedVariables false
set_option linter.unusedSimpArgs false
open Go.RowKit

/-- the blocks around operation `i`, once `k` operations are behind -/
def arAt (l : List OpD) (i : Int) (k : Nat) : List Int := if 0 ≤ i ∧ i < k then (match l[i.toNat]? with | some x => arnd (stAt l i.toNat) x | none => []) else []
def aroundS (l : List OpD) (i : Int) : List Int × Int := if well l = true then (if i < 0 ∨ (l.length : Int) ≤ i then ([], 2) else (arAt l i l.length, 0)) else ([], 6)
theorem arAt_zero (l : List OpD) (i : Int) : arAt l i 0 = [] := by unfold arAt; rw [if_neg (by omega)]
theorem arAt_other (l : List OpD) (i : Int) (k : Nat) (h : i ≠ k) : arAt l i (k + 1) = arAt l i k := by
  unfold arAt
  by_cases hh : 0 ≤ i ∧ i < k
  · rw [if_pos hh, if_pos ⟨hh.1, by omega⟩]
  · rw [if_neg hh, if_neg (by omega)]
theorem arAt_this (l : List OpD) (k : Nat) (x : OpD) (h : l[k]? = some x) : arAt l (k : Int) (k + 1) = arnd (stAt l k) x := by
  unfold arAt
  rw [if_pos ⟨by omega, by omega⟩]
  simp [h]

end Go.Proofs.Ytoklehndfncmnaa
