/- Duals, plain: the run that is derived by one register. No program is named here. -/
import Derived.Test.YthncfoompoheoaaDa
import Derived.Test.YthncfoompoheoaaS22d
namespace Go.Proofs.Ythncfoompoheoaa
set_option linter.unusedVariables false
set_option linter.unusedSimpArgs false
open Go.RowKit
theorem startD_get (n : Nat) (r : List DuD) (j : Nat) : (startD n r)[j]? = if j < r.length then r[j]? else if j < n then some ⟨0, 0⟩ else none := by
  unfold startD
  by_cases h : j < r.length
  · rw [if_pos h, List.getElem?_append_left h]
  · rw [if_neg h, List.getElem?_append_right (by omega), List.getElem?_replicate]
    by_cases h2 : j < n
    · rw [if_pos h2, if_pos (by omega)]
    · rw [if_neg h2, if_neg (by omega)]
theorem startR_get (n : Nat) (r : List UInt64) (j : Nat) : (startR n r)[j]? = if j < r.length then r[j]? else if j < n then some 0 else none := by
  unfold startR
  by_cases h : j < r.length
  · rw [if_pos h, List.getElem?_append_left h]
  · rw [if_neg h, List.getElem?_append_right (by omega), List.getElem?_replicate]
    by_cases h2 : j < n
    · rw [if_pos h2, if_pos (by omega)]
    · rw [if_neg h2, if_neg (by omega)]
theorem startD_len (n : Nat) (r : List DuD) : (startD n r).length = max n r.length := by simp [startD]; omega
/-- the registers as duals, derived by the one of number i -/
def alongL (r : List UInt64) (i : Nat) : List DuD := (startD (i + 1) (ofWords r)).set i ⟨(r[i]?).getD 0, 1⟩
theorem alongL_len (r : List UInt64) (i : Nat) : (alongL r i).length = max (i + 1) r.length := by unfold alongL; rw [List.length_set, startD_len, ofWords_length]
theorem ofWords_get (r : List UInt64) (j : Nat) : (ofWords r)[j]? = (r[j]?).map fun x => ⟨x, 0⟩ := by simp [ofWords]
theorem alongL_start (r : List UInt64) (i n : Nat) (hi : i < n) (hr : r.length ≤ n) : startD n (alongL r i) = zipD (startR n r) (unitR n i) := by
  apply List.ext_getElem?
  intro j
  rw [startD_get, alongL_len]
  unfold zipD unitR alongL
  rw [List.getElem?_zipWith, startR_get, List.getElem?_set, List.getElem?_set, startD_get, startD_len, List.getElem?_replicate, List.length_replicate, ofWords_length, ofWords_get]
  by_cases hij : i = j
  · subst hij
    rw [if_pos rfl, if_pos rfl, if_pos (by omega), if_pos (by omega), if_pos hi]
    by_cases h1 : i < r.length
    · rw [if_pos h1, List.getElem?_eq_getElem h1, if_pos hi]; rfl
    · rw [if_neg h1, if_pos hi, List.getElem?_eq_none (by omega)]; rfl
  · rw [if_neg hij, if_neg hij]
    by_cases h1 : j < r.length
    · rw [if_pos (by omega), if_pos h1, if_pos h1, if_pos (by omega), List.getElem?_eq_getElem h1]; rfl
    · rw [if_neg h1, if_neg h1]
      by_cases h2 : j < n
      · by_cases h3 : j < i + 1
        · rw [if_pos (by omega), if_pos h3, if_pos h2]
        · rw [if_neg (by omega), if_pos h2, if_pos h2]
      · rw [if_neg (by omega), if_neg h2, if_neg h2]
/-- may it be derived by a register? -/
def alongE (regs : Int) (l : List OpD) (rn : Nat) (i : Int) : Int := if dualE regs l rn ≠ 0 then dualE regs l rn else if i < 0 ∨ regs ≤ i then 2 else 0
noncomputable def alongA (regs : Int) (l : List OpD) (r : List UInt64) (i : Int) : List UInt64 := if alongE regs l r.length i = 0 then runT (unrS regs l) (startR regs.toNat r) (unitR regs.toNat i.toNat) else []
theorem alongE_good {regs : Int} {l : List OpD} {rn : Nat} {i : Int} (h : alongE regs l rn i = 0) : ∃ f : Fo, l = f.flat ∧ Good regs f ∧ (rn : Int) ≤ regs ∧ 0 ≤ i ∧ i < regs := by
  unfold alongE at h
  by_cases hc : dualE regs l rn = 0
  · rw [if_neg (by simpa using hc)] at h
    obtain ⟨f, e, g, hn⟩ := dualE_good hc
    by_cases hi : i < 0 ∨ regs ≤ i
    · rw [if_pos hi] at h; cases h
    · exact ⟨f, e, g, hn, by omega, by omega⟩
  · rw [if_pos hc] at h; exact absurd h hc
theorem alongE_of {regs : Int} {f : Fo} (g : Good regs f) {rn : Nat} {i : Int} (hn : (rn : Int) ≤ regs) (h0 : 0 ≤ i) (h1 : i < regs) : alongE regs f.flat rn i = 0 := by
  unfold alongE
  rw [if_neg (by simpa using dualE_of g hn), if_neg (by omega)]
theorem alongA_good {regs : Int} {f : Fo} (g : Good regs f) {r : List UInt64} {i : Int} (hn : (r.length : Int) ≤ regs) (h0 : 0 ≤ i) (h1 : i < regs) : alongA regs f.flat r i = runT f.unroll (startR regs.toNat r) (unitR regs.toNat i.toNat) := by
  unfold alongA
  rw [if_pos (alongE_of g hn h0 h1), unrS_good g]
theorem alongA_bad {regs : Int} {l : List OpD} {r : List UInt64} {i : Int} (h : alongE regs l r.length i ≠ 0) : alongA regs l r i = [] := by unfold alongA; rw [if_neg h]
theorem alongA_len {regs : Int} {f : Fo} (g : Good regs f) {r : List UInt64} {i : Int} (hn : (r.length : Int) ≤ regs) (h0 : 0 ≤ i) (h1 : i < regs) : (alongA regs f.flat r i).length = regs.toNat := by
  rw [alongA_good g hn h0 h1, runT_length]; simp [unitR]
/-- the run that is derived by it -/
theorem along_run {nr : Nat} {f : Fo} (g : Good nr f) {r : List UInt64} {i : Nat} (hn : r.length ≤ nr) (hi : i < nr) :
    dualE nr f.flat (alongL r i).length = 0 ∧ (dualR nr f.flat (alongL r i)).length = nr ∧ (dualR nr f.flat (alongL r i)).map (·.d) = alongA nr f.flat r i ∧ (dualR nr f.flat (alongL r i)).map (·.v) = runR f.unroll (startR nr r) := by
  have hl : (alongL r i).length ≤ nr := by rw [alongL_len]; omega
  have hll : (startR nr r).length = (unitR nr i).length := by rw [startR_length _ _ hn]; simp [unitR]
  have e : dualR nr f.flat (alongL r i) = zipD (runR f.unroll (startR nr r)) (runT f.unroll (startR nr r) (unitR nr i)) := by
    rw [dualR_good g (by omega), Int.toNat_natCast, alongL_start r i nr hi hn]
    exact runD_zip _ (fun x hx => (f.unroll_mem g.ok x hx).2) _ _ hll
  have hl2 : (runR f.unroll (startR nr r)).length = (runT f.unroll (startR nr r) (unitR nr i)).length := by rw [runR_length, runT_length, hll]
  refine ⟨dualE_of g (by omega), ?_, ?_, ?_⟩
  · rw [e, zipD_length _ _ hl2, runR_length, startR_length _ _ hn]
  · rw [e, zipD_d _ _ hl2, alongA_good g (by omega) (by omega) (by omega), Int.toNat_natCast, Int.toNat_natCast]
  · rw [e, zipD_v _ _ hl2]
theorem dotU_nil (b : List UInt64) : dotU [] b = 0 := by cases b <;> rfl
theorem dotU_start (n : Nat) (w t : List UInt64) (hw : w.length ≤ n) (ht : t.length = n) : dotU (startR n w) t = dotU w t := by
  induction w generalizing n t with
  | nil =>
    rw [dotU_nil, dot_comm]
    unfold startR
    rw [List.nil_append]
    exact dot_zero _ _
  | cons x w ih =>
    cases t with
    | nil => simp at ht; subst ht; simp at hw
    | cons y t =>
      obtain ⟨m, rfl⟩ : ∃ m, n = m + 1 := ⟨n - 1, by simp at ht; omega⟩
      have e : startR (m + 1) (x :: w) = x :: startR m w := by unfold startR; simp
      rw [e]
      show x * y + dotU (startR m w) t = x * y + dotU w t
      rw [ih m t (by simpa using hw) (by simpa using ht)]
theorem dotU_snoc (w t : List UInt64) (k : Nat) (x y : UInt64) (hx : w[k]? = some x) (hy : t[k]? = some y) : dotU (w.take (k + 1)) t = dotU (w.take k) t + x * y := by
  induction k generalizing w t with
  | zero =>
    cases w with
    | nil => simp at hx
    | cons a w => cases t with
      | nil => simp at hy
      | cons b t =>
        simp at hx hy
        subst hx hy
        show a * b + dotU [] t = dotU [] _ + a * b
        rw [dotU_nil, dotU_nil]; grind
  | succ k ih =>
    cases w with
    | nil => simp at hx
    | cons a w => cases t with
      | nil => simp at hy
      | cons b t =>
        simp at hx hy
        show a * b + dotU (w.take (k + 1)) t = a * b + dotU (w.take k) t + x * y
        rw [ih w t hx hy]; grind
/-- what tangents tell of weights is what is taken back -/
theorem pull_along {nr : Nat} {f : Fo} (g : Good nr f) {r w : List UInt64} (hn : r.length ≤ nr) (hw : w.length ≤ nr) (i : Nat) (hi : i < nr) : (pullA nr f.flat r w)[i]? = some (dotU w (alongA nr f.flat r i)) := by
  have hl : (startR nr w).length = nr := startR_length _ _ hw
  have h := back_unit f.unroll nr (fun x hx => g.inR x hx) (startR nr r) (startR nr w) (by omega) i (by omega)
  rw [pullA_good g (by omega) (by omega), Int.toNat_natCast]
  have hb : i < (backA f.unroll (startR nr r) (startR nr w)).length := by rw [backA_length]; omega
  rw [List.getElem?_eq_getElem hb] at h ⊢
  rw [Option.getD_some] at h
  rw [h, hl, alongA_good g (by omega) (by omega) (by omega), Int.toNat_natCast, Int.toNat_natCast, dotU_start nr _ _ hw (by rw [runT_length]; simp [unitR])]
end Go.Proofs.Ythncfoompoheoaa
