/- SweepJoined, plain. No program is named here. -/
import Derived.Test.YthncfoompoheoaaS22d
import Derived.Test.YthncfoompoheoaaQs
namespace Go.Proofs.Ythncfoompoheoaa
set_option linter.unusedVariables false
set_option linter.unusedSimpArgs false
open Go.RowKit
theorem small_le22 {regs : Int} {l : List OpD} {m : Int} (h : small13 regs l m = true) : (l.length : Int) ≤ m := by
  unfold small13 at h
  simp only [Bool.and_eq_true, decide_eq_true_eq] at h
  exact h.1
theorem small_few22 {regs : Int} {l : List OpD} {m : Int} (h : small13 regs l m = true) : (unrS regs l).length ≤ 3000 := by
  unfold small13 at h
  simp only [Bool.and_eq_true, Bool.or_eq_true, decide_eq_true_eq] at h
  rcases h.2 with h1 | h1
  · rw [unrS_bad h1]; simp
  · exact h1
theorem startR_whole {n : Nat} {r : List UInt64} (h : r.length = n) : startR n r = r := by subst h; simp [startR]
/-- two weights together -/
theorem sum22 {regs : Int} {l : List OpD} {r v w : List UInt64} (hv : (v.length : Int) = regs) (hw : (w.length : Int) = regs) :
    pullE regs l r.length (sumR v w).length = pullE regs l r.length v.length ∧ pullE regs l r.length w.length = pullE regs l r.length v.length ∧ (pullE regs l r.length v.length = 0 → pullA regs l r (sumR v w) = sumR (pullA regs l r v) (pullA regs l r w)) := by
  have e : (sumR v w).length = v.length := sumR_length v w (by omega)
  have e2 : w.length = v.length := by omega
  refine ⟨by rw [e], by rw [e2], fun h => ?_⟩
  obtain ⟨f, rfl, g, hn, hm⟩ := pull_good h
  rw [pullA_good g hn (by omega), pullA_good g hn (by omega), pullA_good g hn (by omega), startR_whole (r := sumR v w) (by omega), startR_whole (r := v) (by omega), startR_whole (r := w) (by omega)]
  exact backA_sum _ _ _ _ (by omega)
theorem pullA_length {regs : Int} {l : List OpD} {r v : List UInt64} (h : pullE regs l r.length v.length = 0) : ((pullA regs l r v).length : Int) = regs := by
  obtain ⟨f, rfl, g, hn, hm⟩ := pull_good h
  have := g.r1
  rw [pullA_good g hn hm, backA_length, startR_length _ _ (by omega)]
  omega
/-- one program behind the other -/
theorem joined22 {regs : Int} {l m : List OpD} {r v Z : List UInt64} (hl : l.length ≤ 60) (hm : m.length ≤ 60) (hul : (unrS regs l).length ≤ 3000) (hum : (unrS regs m).length ≤ 3000) (hr : (r.length : Int) = regs) (hv : (v.length : Int) = regs)
    (h1 : pullE regs l r.length v.length = 0) (hZ : (Z.length : Int) = sizeW l) :
    sizeE l = 0 ∧ readyS regs l r.length Z.length = 0 ∧ (pullE regs m r.length v.length = 0 → pullE regs (l ++ m) r.length v.length = 0 ∧ pullA regs (l ++ m) r v = pullA regs l r (pullA regs m (recR regs l r Z) v)) := by
  obtain ⟨f, rfl, gf, hn, hw⟩ := pull_good h1
  obtain ⟨s1, s2⟩ := gf.sizeW
  rw [s1] at hZ
  have hZ2 : f.unroll.length ≤ Z.length := by omega
  refine ⟨s2, ready_of_good gf hr hZ2, fun h2 => ?_⟩
  obtain ⟨g, rfl, gg, _, _⟩ := pull_good h2
  rw [unrS_good gf, Fo.unroll_length] at hul
  rw [unrS_good gg, Fo.unroll_length] at hum
  have gj : Good regs (f.app g) := gf.app gg (by unfold Fo.size; omega) (by omega)
  have h2l := pullA_length h2
  rw [← Fo.app_flat', (rec_good gf hr hZ2).1]
  have hRl : ((runR f.unroll r).length : Int) = regs := by rw [runR_length]; exact hr
  have hBl : ((backA g.unroll (runR f.unroll r) v).length : Int) = regs := by rw [backA_length]; exact hv
  refine ⟨pull_of_good gj hn hw, ?_⟩
  rw [pullA_good gj hn hw, pullA_good gg (by omega) hw, startR_whole (r := r) (by omega), startR_whole (r := v) (by omega), startR_whole (r := runR f.unroll r) (by omega), pullA_good gf hn (by omega), startR_whole (r := r) (by omega), startR_whole (r := backA g.unroll (runR f.unroll r) v) (by omega), Fo.unroll_app, backA_append]
end Go.Proofs.Ythncfoompoheoaa
