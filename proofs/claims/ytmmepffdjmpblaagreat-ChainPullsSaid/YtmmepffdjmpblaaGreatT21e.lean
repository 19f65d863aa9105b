/- Chapter 21: Was. -/
import Derived.Test.YtmmepffdjmpblaaGreatS20d
import Derived.Test.YtmmepffdjmpblaaGreatT21d
namespace Go.Proofs.YtmmepffdjmpblaaGreat
set_option linter.unusedVariables false
set_option linter.unusedSimpArgs false
open Go.RowKit

theorem kind_isW (f : Fo) (hf : f.ok) : ∀ (j : Nat) (x : OpD), f.flat[j]? = some x → 1 ≤ x.kind → x.kind ≤ 6 → f.isW j := by
  induction f with
  | nil => intro j x h; simp [Fo.flat] at h
  | leaf op r ih =>
    intro j x h k1 k2
    obtain ⟨_, _, h3⟩ := hf
    cases j with
    | zero => rw [Fo.isW]; simp
    | succ j =>
      rw [Fo.isW, if_neg (by omega)]
      exact ih h3 _ x (by simpa [Fo.flat] using h) k1 k2
  | rep op b fin r ihb ihr =>
    intro j x h k1 k2
    obtain ⟨h1, h2, h3, h4⟩ := hf
    have hbs : b.size = b.flat.length := rfl
    change (op :: (b.flat ++ fin :: r.flat))[j]? = some x at h
    rw [Fo.isW]
    cases j with
    | zero => simp at h; subst h; omega
    | succ j =>
      rw [if_neg (by omega)]
      rw [List.getElem?_cons_succ] at h
      by_cases hj : j < b.flat.length
      · rw [if_pos (by omega)]
        rw [List.getElem?_append_left hj] at h
        exact ihb h2 j x h k1 k2
      · rw [List.getElem?_append_right (by omega)] at h
        by_cases hj2 : j = b.flat.length
        · subst hj2
          simp at h
          subst h; omega
        · rw [if_neg (by omega)]
          rw [show j - b.flat.length = (j + 1 - b.size - 2) + 1 by omega, List.getElem?_cons_succ] at h
          exact ihr h4 _ x h k1 k2
theorem placeS_bd {regs : Int} {f : Fo} (g : Good regs f) {i : Int} {rs : List Int} {V : Int} (h : placeS regs f.flat i rs = (V, 0)) : 0 ≤ V ∧ V < (f.wr : Int) := by
  unfold placeS at h
  rw [if_neg (by rw [g.check]; simp)] at h
  by_cases hi : i < 0 ∨ (f.flat.length : Int) ≤ i
  · rw [if_pos hi] at h; injection h with h1 h2; cases h2
  · rw [if_neg hi] at h
    obtain ⟨k, rfl⟩ : ∃ k : Nat, i = k := ⟨i.toNat, by omega⟩
    have hl : k < f.flat.length := by omega
    by_cases hc : wAt f.flat (k : Int) = true ∧ rgt f.flat (aroundS f.flat (k : Int)).1 rs = true
    · rw [if_pos hc, fo_flat g.ok] at h
      injection h with h1 h2
      obtain ⟨x, hx⟩ : ∃ x, f.flat[k]? = some x := ⟨_, List.getElem?_eq_getElem hl⟩
      have hw := hc.1
      unfold wAt at hw
      simp only [Int.toNat_natCast] at hw h1
      rw [hx] at hw
      have hk16 : 1 ≤ x.kind ∧ x.kind ≤ 6 := by unfold dOf at hw; simpa using hw
      have hA := around_good g.ok hx
      obtain ⟨hep, _⟩ := f.encl_pth g.ok 0 k x hx (by omega)
      have hrr := rgt_rok _ f 0 k rs (Stands.whole g.ok) (by unfold Fo.size; omega) hep.symm
      have hr2 := hc.2
      rw [hA] at hr2
      obtain ⟨b1, b2, b3⟩ := f.plc_bd k rs (hrr.1 hr2)
      rw [← h1]
      exact ⟨b1, b3 (kind_isW f g.ok k x hx hk16.1 hk16.2)⟩
    · rw [if_neg hc] at h; injection h with h1 h2; cases h2
theorem placeS_bad {regs : Int} {l : List OpD} {i : Int} {rs : List Int} {V E : Int} (h : placeS regs l i rs = (V, E)) (h0 : checkS regs l ≠ 0) : V = 0 ∧ E = checkS regs l := by
  unfold placeS at h
  rw [if_pos h0] at h
  injection h with h1 h2
  exact ⟨h1.symm, h2.symm⟩
/-- what a write overwrote -/
noncomputable def wasS (regs : Int) (l : List OpD) (t : List UInt64) (i : Int) (rs : List Int) : UInt64 × Int :=
  if (placeS regs l i rs).2 ≠ 0 then (0, (placeS regs l i rs).2) else if t.length < (unrS regs l).length then (0, 15) else (getR t (placeS regs l i rs).1, 0)
end Go.Proofs.YtmmepffdjmpblaaGreat
