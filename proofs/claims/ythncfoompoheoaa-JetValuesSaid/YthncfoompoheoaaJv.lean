/- JetValues, plain. No program is named here. -/
import Derived.Test.YthncfoompoheoaaW14a
namespace Go.Proofs.Ythncfoompoheoaa
set_option linter.unusedVariables false
set_option linter.unusedSimpArgs false
open Go.RowKit
def valsD (r : List DuD) : List UInt64 := r.map (·.v)
def moreD (y : UInt64) (r : List DuD) : List DuD := r.map fun x => ⟨x.v, y * x.d⟩
theorem valsD_snoc {r : List DuD} {k : Nat} {x : DuD} (h : r[k]? = some x) : valsD (r.take k) ++ [x.v] = valsD (r.take (k + 1)) := by rw [List.take_add_one, h]; simp [valsD]
theorem moreD_snoc {y : UInt64} {r : List DuD} {k : Nat} {x : DuD} (h : r[k]? = some x) : moreD y (r.take k) ++ [(⟨x.v, y * x.d⟩ : DuD)] = moreD y (r.take (k + 1)) := by rw [List.take_add_one, h]; simp [moreD]
theorem startD_zip (n : Nat) (r : List DuD) (h : r.length ≤ n) : startD n r = zipD (startR n (valsD r)) (startR n (r.map (·.d))) := by
  apply List.ext_getElem?
  intro j
  unfold zipD valsD
  rw [List.getElem?_zipWith, startD_get, startR_get, startR_get, List.length_map, List.length_map, List.getElem?_map, List.getElem?_map]
  by_cases h1 : j < r.length
  · rw [if_pos h1, if_pos h1, if_pos h1, List.getElem?_eq_getElem h1]; rfl
  · rw [if_neg h1, if_neg h1, if_neg h1]
    by_cases h2 : j < n
    · rw [if_pos h2, if_pos h2]
    · rw [if_neg h2, if_neg h2]
theorem startR_scale (n : Nat) (r : List UInt64) (y : UInt64) : startR n (scaleR y r) = scaleR y (startR n r) := by
  unfold startR scaleR
  rw [List.map_append, List.map_replicate, List.length_map, show y * (0 : UInt64) = 0 by grind]
theorem values14 {regs : Int} {l : List OpD} {r : List DuD} {y : UInt64} (h : dualE regs l r.length = 0) :
    dimsS regs l (valsD r).length = 0 ∧ dualE regs l (moreD y r).length = 0 ∧ ((dualR regs l r).map (·.v) = uptoS regs l (valsD r) (-1)) ∧ dualR regs l (moreD y r) = moreD y (dualR regs l r) := by
  obtain ⟨f, rfl, g, hn⟩ := dualE_good h
  obtain ⟨nr, rfl⟩ : ∃ nr : Nat, regs = nr := ⟨regs.toNat, by have := g.r1; omega⟩
  have hv : (valsD r).length = r.length := by simp [valsD]
  have hm : (moreD y r).length = r.length := by simp [moreD]
  have hd : (r.map (·.d)).length = r.length := by simp
  have hl : ∀ x ∈ f.unroll, 1 ≤ x.kind ∧ x.kind ≤ 6 := fun x hx => (f.unroll_mem g.ok x hx).2
  have hs : (startR nr (valsD r)).length = (startR nr (r.map (·.d))).length := by rw [startR_length _ _ (by omega), startR_length _ _ (by omega)]
  have e1 : dualR nr f.flat r = zipD (runR f.unroll (startR nr (valsD r))) (runT f.unroll (startR nr (valsD r)) (startR nr (r.map (·.d)))) := by
    rw [dualR_good g hn, Int.toNat_natCast, startD_zip nr r (by omega)]
    exact runD_zip _ hl _ _ hs
  have e2 : dualR nr f.flat (moreD y r) = zipD (runR f.unroll (startR nr (valsD r))) (scaleR y (runT f.unroll (startR nr (valsD r)) (startR nr (r.map (·.d))))) := by
    have k1 : valsD (moreD y r) = valsD r := by simp [valsD, moreD]
    have k2 : (moreD y r).map (·.d) = scaleR y (r.map (·.d)) := by simp [moreD, scaleR]
    rw [dualR_good g (by omega), Int.toNat_natCast, startD_zip nr (moreD y r) (by omega), k1, k2, startR_scale, ← runT_scale]
    exact runD_zip _ hl _ _ (by simp [scaleR, hs])
  have hlen : (runR f.unroll (startR nr (valsD r))).length = (runT f.unroll (startR nr (valsD r)) (startR nr (r.map (·.d)))).length := by rw [runR_length, runT_length, hs]
  refine ⟨dims_of_good g (by omega), dualE_of g (by omega), ?_, ?_⟩
  · rw [e1, zipD_v _ _ hlen, uptoS_good g (by omega), Int.toNat_natCast]
    unfold uptoL
    rw [if_pos (by omega)]
  · rw [e1, e2]
    unfold zipD moreD scaleR
    apply List.ext_getElem?
    intro j
    simp only [List.getElem?_map, List.getElem?_zipWith]
    cases (runR f.unroll (startR nr (valsD r)))[j]? with
    | none => rfl
    | some a =>
      cases (runT f.unroll (startR nr (valsD r)) (startR nr (r.map (·.d))))[j]? with
      | none => rfl
      | some b => rfl
theorem values14_bad {regs : Int} {l : List OpD} {r : List DuD} {y : UInt64} (h : dualE regs l r.length ≠ 0) :
    dimsS regs l (valsD r).length = dualE regs l r.length ∧ dualE regs l (moreD y r).length = dualE regs l r.length ∧ dualR regs l r = [] ∧ uptoS regs l (valsD r) (-1) = [] ∧ dualR regs l (moreD y r) = [] := by
  have hv : (valsD r).length = r.length := by simp [valsD]
  have hm : (moreD y r).length = r.length := by simp [moreD]
  have e : dimsS regs l (valsD r).length = dualE regs l r.length := by unfold dimsS dualE; rw [hv]
  exact ⟨e, by rw [hm], dualR_bad h, uptoS_bad (by rw [e]; exact h) _, dualR_bad (by rw [hm]; exact h)⟩
end Go.Proofs.Ythncfoompoheoaa
