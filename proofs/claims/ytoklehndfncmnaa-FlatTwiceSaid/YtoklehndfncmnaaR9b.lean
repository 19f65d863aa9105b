/- Chapter 9, the document's answers: Writes, Sizes, Rounds. -/
import Derived.Test.YtoklehndfncmnaaR9a
namespace Go.Proofs.Ytoklehndfncmnaa
set_option linter.unusedVariables false
set_option linter.unusedSimpArgs false
open Go.RowKit

/-- What stands at a place of a forest. -/
theorem Stands.at_ {l : List OpD} {m : List Int} (f : Fo) : ∀ {o : Nat}, Stands l m o f → ∀ i, i < f.size → ∃ x, f.flat[i]? = some x ∧ l[o + i]? = some x ∧
    ((x.kind = 7 ∧ ∃ b fin r, Stands l m (o + i) (.rep x b fin r) ∧ f.sizes[i]? = some ((b.wr * x.v.toNat : Nat) : Int) ∧ f.rounds[i]? = some (b.wr : Int)) ∨
     (x.kind = 0 ∧ f.sizes[i]? = some 0 ∧ f.rounds[i]? = some 0) ∨ (1 ≤ x.kind ∧ x.kind ≤ 6 ∧ f.sizes[i]? = some 1 ∧ f.rounds[i]? = some 0)) := by
  induction f with
  | nil => intro o h i hi; simp [Fo.size, Fo.flat] at hi
  | leaf op r ih =>
    intro o h i hi
    obtain ⟨e1, k1, k2, e2, hr⟩ := h.leaf
    rw [Fo.size_leaf] at hi
    cases i with
    | zero => exact ⟨op, rfl, e1, .inr (.inr ⟨k1, k2, rfl, rfl⟩)⟩
    | succ i =>
      obtain ⟨x, g1, g2, g3⟩ := ih hr i (by omega)
      rw [show o + 1 + i = o + (i + 1) by omega] at g2 g3
      exact ⟨x, by simpa [Fo.flat] using g1, g2, by simpa [Fo.sizes, Fo.rounds] using g3⟩
  | rep op b fin r ihb ihr =>
    intro o h i hi
    obtain ⟨e1, k7, e3, e4, k0, e6, hb, hr⟩ := h.rep
    rw [Fo.size_rep] at hi
    have hbs : b.flat.length = b.size := rfl
    cases i with
    | zero => exact ⟨op, rfl, e1, .inl ⟨k7, b, fin, r, h, rfl, rfl⟩⟩
    | succ i =>
      by_cases h1 : i < b.size
      · obtain ⟨x, g1, g2, g3⟩ := ihb hb i h1
        rw [show o + 1 + i = o + (i + 1) by omega] at g2 g3
        refine ⟨x, by simp only [Fo.flat, List.getElem?_cons_succ]; rw [List.getElem?_append_left (by omega)]; exact g1, g2, ?_⟩
        simp only [Fo.sizes, Fo.rounds, List.getElem?_cons_succ]
        rw [List.getElem?_append_left (by rw [Fo.sizes_length]; omega), List.getElem?_append_left (by rw [Fo.rounds_length]; omega)]
        exact g3
      · by_cases h2 : i = b.size
        · subst h2
          refine ⟨fin, by simp only [Fo.flat, List.getElem?_cons_succ]; rw [List.getElem?_append_right (by omega)]; simp [hbs], by rw [show o + (b.size + 1) = o + b.size + 1 by omega]; exact e4, .inr (.inl ⟨k0, ?_, ?_⟩)⟩
          · simp only [Fo.sizes, List.getElem?_cons_succ]
            rw [List.getElem?_append_right (by rw [Fo.sizes_length]; omega), Fo.sizes_length]; simp
          · simp only [Fo.rounds, List.getElem?_cons_succ]
            rw [List.getElem?_append_right (by rw [Fo.rounds_length]; omega), Fo.rounds_length]; simp
        · obtain ⟨i', hi'⟩ : ∃ i', i - b.size = i' + 1 := ⟨i - b.size - 1, by omega⟩
          obtain ⟨x, g1, g2, g3⟩ := ihr hr i' (by omega)
          rw [show o + b.size + 2 + i' = o + (i + 1) by omega] at g2 g3
          refine ⟨x, by simp only [Fo.flat, List.getElem?_cons_succ]; rw [List.getElem?_append_right (by omega), hbs, hi']; simpa using g1, g2, ?_⟩
          simp only [Fo.sizes, Fo.rounds, List.getElem?_cons_succ]
          rw [List.getElem?_append_right (by rw [Fo.sizes_length]; omega), List.getElem?_append_right (by rw [Fo.rounds_length]; omega), Fo.sizes_length, Fo.rounds_length, hi']
          simpa using g3
/-- Two blocks that begin at one place are one. -/
theorem Stands.one {l : List OpD} {m : List Int} {o : Nat} {op op' fin fin' : OpD} {b b' r r' : Fo} (h : Stands l m o (.rep op b fin r)) (h' : Stands l m o (.rep op' b' fin' r')) : op = op' ∧ b = b' := by
  obtain ⟨pre, post, e, hp⟩ := h.ops
  obtain ⟨pre', post', e', hp'⟩ := h'.ops
  have k := h.ok
  have k' := h'.ok
  rw [e] at e'
  simp only [Fo.flat, List.append_assoc, List.cons_append] at e'
  obtain ⟨e1, e2⟩ := List.append_inj e' (by omega)
  injection e2 with e2 e3
  exact ⟨e2, (Fo.flat_inj b k.2.1 b' k'.2.1 _ _ _ _ k.2.2.1 k'.2.2.1 e3).1⟩
theorem may_stands {l : List OpD} {m : List Int} (f : Fo) : ∀ {o : Nat}, Stands l m o f → (f.may = true ↔ ∀ i op b fin r, o ≤ i → i < o + f.size → Stands l m i (.rep op b fin r) → b.wr ≤ 65536 ∧ b.wr * op.v.toNat ≤ 65536) := by
  induction f with
  | nil => intro o h; simp [Fo.may, Fo.size, Fo.flat]; intro i op b fin r h1 h2; omega
  | leaf op r ih =>
    intro o h
    obtain ⟨e1, k1, k2, e2, hr⟩ := h.leaf
    rw [Fo.may, ih hr, Fo.size_leaf]
    constructor
    · intro H i op' b fin r' h1 h2 hs
      by_cases hi : i = o
      · subst hi
        have := hs.rep
        rw [e1] at this
        injection this.1 with e
        subst e
        omega
      · exact H i op' b fin r' (by omega) (by omega) hs
    · intro H i op' b fin r' h1 h2 hs
      exact H i op' b fin r' (by omega) (by omega) hs
  | rep op b fin r ihb ihr =>
    intro o h
    obtain ⟨e1, k7, e3, e4, k0, e6, hb, hr⟩ := h.rep
    simp only [Fo.may, Bool.and_eq_true, decide_eq_true_eq]
    rw [ihb hb, ihr hr, Fo.size_rep]
    constructor
    · rintro ⟨⟨⟨H1, H2⟩, H3⟩, H4⟩ i op' b' fin' r' h1 h2 hs
      by_cases hi : i = o
      · subst hi
        obtain ⟨rfl, rfl⟩ := h.one hs
        exact ⟨H2, H3⟩
      · by_cases h3 : i < o + 1 + b.size
        · exact H1 i op' b' fin' r' (by omega) h3 hs
        · by_cases h4 : i = o + b.size + 1
          · subst h4
            have := hs.rep
            rw [e4] at this
            injection this.1 with e
            subst e
            omega
          · exact H4 i op' b' fin' r' (by omega) (by omega) hs
    · intro H
      obtain ⟨H2, H3⟩ := H o op b fin r (by omega) (by omega) h
      exact ⟨⟨⟨fun i op' b' fin' r' h1 h2 hs => H i op' b' fin' r' (by omega) (by omega) hs, H2⟩, H3⟩, fun i op' b' fin' r' h1 h2 hs => H i op' b' fin' r' (by omega) (by omega) hs⟩

/-- what is told of a forest's size -/
theorem sizeE_flat {f : Fo} (hf : f.ok) : sizeE f.flat = if f.may = true ∧ f.wr ≤ 65536 then 0 else 9 := by
  unfold sizeE
  rw [if_pos (well_of_flat f hf), measL_flat f hf]
  by_cases h : f.may = true ∧ f.wr ≤ 65536
  · rw [if_pos h, if_pos h]; rfl
  · rw [if_neg h, if_neg h]; rfl
theorem sizes_flat {f : Fo} (hf : f.ok) : sizeW f.flat = (if f.may = true ∧ f.wr ≤ 65536 then (f.wr : Int) else 0) ∧ sizeZ f.flat = (if f.may = true ∧ f.wr ≤ 65536 then f.sizes else []) ∧ sizeR f.flat = (if f.may = true ∧ f.wr ≤ 65536 then f.rounds else []) := by
  unfold sizeW sizeZ sizeR measO
  rw [if_pos (well_of_flat f hf), measL_flat f hf]
  by_cases h : f.may = true ∧ f.wr ≤ 65536
  · rw [if_pos h, if_pos h, if_pos h, if_pos h]; exact ⟨rfl, rfl, rfl⟩
  · rw [if_neg h, if_neg h, if_neg h, if_neg h]; exact ⟨rfl, rfl, rfl⟩
theorem size_bad {l : List OpD} (h : well l = false) : sizeE l = 6 ∧ sizeW l = 0 ∧ sizeZ l = [] ∧ sizeR l = [] := by
  unfold sizeE sizeW sizeZ sizeR measO
  simp [h]
end Go.Proofs.Ytoklehndfncmnaa
