/- Marks of chapter 20: all that is come to; plain. No program is named here. -/
import Derived.Test.YthncfoompoheoaaSg2
namespace Go.Proofs.Ythncfoompoheoaa
set_option linter.unusedVariables false
set_option linter.unusedSimpArgs false
open Go.RowKit
/-- all that is come to, in its order: places and rounds -/
def Fo.mks : Nat → List Int → Fo → List (Nat × List Int)
  | _, _, .nil => []
  | o, rs, .leaf _ r => (o, rs) :: mks (o + 1) rs r
  | o, rs, .rep op b _ r => (if b.wr = 0 then [] else ((List.range op.v.toNat).map fun (k : Nat) => (o, rs ++ [(k : Int)]) :: (mks (o + 1) (rs ++ [(k : Int)]) b ++ [(o + b.size + 1, rs ++ [(k : Int)])])).flatten) ++ mks (o + b.size + 2) rs r
/-- a round of a block -/
def mkR (b : Fo) (o : Nat) (rs : List Int) (k : Nat) : List (Nat × List Int) := (o, rs ++ [(k : Int)]) :: (Fo.mks (o + 1) (rs ++ [(k : Int)]) b ++ [(o + b.size + 1, rs ++ [(k : Int)])])
theorem Fo.mks_rep (o : Nat) (rs : List Int) (op fin : OpD) (b r : Fo) (h : b.wr ≠ 0) : Fo.mks o rs (.rep op b fin r) = ((List.range op.v.toNat).map (mkR b o rs)).flatten ++ Fo.mks (o + b.size + 2) rs r := by
  rw [Fo.mks, if_neg h]; rfl
theorem Fo.mks_rep0 (o : Nat) (rs : List Int) (op fin : OpD) (b r : Fo) (h : b.wr = 0) : Fo.mks o rs (.rep op b fin r) = Fo.mks (o + b.size + 2) rs r := by
  rw [Fo.mks, if_pos h]; rfl
theorem flat_le (α : Type) (n w : Nat) (f : Nat → List α) (h : ∀ k, (f k).length ≤ w) : (((List.range n).map f).flatten).length ≤ w * n := by
  induction n with
  | zero => simp
  | succ n ih =>
    rw [List.range_succ, List.map_append, List.flatten_append, List.length_append, Nat.mul_succ]
    have := h n
    simp only [List.map_cons, List.map_nil, List.flatten_cons, List.flatten_nil, List.append_nil]
    omega
theorem mks_le (f : Fo) : ∀ (D : Nat) (o : Nat) (rs : List Int), f.dp ≤ D → (Fo.mks o rs f).length ≤ f.wr * (1 + 2 * D) := by
  induction f with
  | nil => intro D o rs _; simp [Fo.mks]
  | leaf op r ih =>
    intro D o rs h
    have := ih D (o + 1) rs h
    simp only [Fo.wr, Fo.mks, List.length_cons, Nat.add_mul]
    omega
  | rep op b fin r ihb ihr =>
    intro D o rs h
    simp only [Fo.dp] at h
    have i1 := ihr D (o + b.size + 2) rs (by omega)
    by_cases hb : b.wr = 0
    · rw [Fo.mks_rep0 _ _ _ _ _ _ hb]
      simp only [Fo.wr, hb, Nat.zero_mul, Nat.zero_add]
      exact i1
    · rw [Fo.mks_rep _ _ _ _ _ _ hb, List.length_append]
      obtain ⟨E, rfl⟩ : ∃ E, D = E + 1 := ⟨D - 1, by omega⟩
      have i2 : ∀ k, (mkR b o rs k).length ≤ b.wr * (1 + 2 * (E + 1)) := fun k => by
        have h1 := ihb E (o + 1) (rs ++ [(k : Int)]) (by omega)
        have h2 : b.wr * (1 + 2 * (E + 1)) = b.wr * (1 + 2 * E) + b.wr * 2 := by rw [← Nat.mul_add, show 1 + 2 * (E + 1) = 1 + 2 * E + 2 by omega]
        simp only [mkR, List.length_cons, List.length_append, List.length_nil]
        omega
      have i3 := flat_le _ op.v.toNat _ _ i2
      simp only [Fo.wr]
      rw [Nat.add_mul, Nat.mul_right_comm]
      omega
/-- is there a write at a place of operations? -/
def wB (l : List OpD) (x : Nat × List Int) : Bool := match l[x.1]? with | some y => dOf y.kind | none => false
theorem mks_writes {l : List OpD} {m : List Int} (f : Fo) : ∀ (o : Nat) (rs : List Int), Stands l m o f → (Fo.mks o rs f).filter (wB l) = Fo.wm o rs f := by
  induction f with
  | nil => intro o rs _; rfl
  | leaf op r ih =>
    intro o rs h
    obtain ⟨e1, k1, k2, e2, hr⟩ := h.leaf
    have hw : wB l (o, rs) = true := by unfold wB; simp only [e1]; exact dOf_true k1 k2
    rw [Fo.mks, List.filter_cons, if_pos hw, ih (o + 1) rs hr]
    rfl
  | rep op b fin r ihb ihr =>
    intro o rs h
    obtain ⟨e1, k7, e3, e4, e5, e6, hb, hr⟩ := h.rep
    have hr' := ihr (o + b.size + 2) rs hr
    have w1 : ∀ x, wB l (o, x) = false := fun x => by unfold wB; simp only [e1]; exact dOf_false (.inr k7)
    have w2 : ∀ x, wB l (o + b.size + 1, x) = false := fun x => by unfold wB; simp only [e4]; exact dOf_false (.inl e5)
    by_cases hb0 : b.wr = 0
    · rw [Fo.mks_rep0 _ _ _ _ _ _ hb0, hr', Fo.wm]
      have e : (List.map (fun (k : Nat) => Fo.wm (o + 1) (rs ++ [(k : Int)]) b) (List.range op.v.toNat)).flatten = [] :=
        List.eq_nil_of_length_eq_zero (by rw [Fo.flat_len _ _ b.wr _ (fun k => Fo.wm_length b _ _), hb0, Nat.zero_mul])
      rw [e]; rfl
    · rw [Fo.mks_rep _ _ _ _ _ _ hb0, List.filter_append, hr', Fo.wm]
      congr 1
      have key : ∀ n, ((List.map (mkR b o rs) (List.range n)).flatten).filter (wB l) = (List.map (fun (k : Nat) => Fo.wm (o + 1) (rs ++ [(k : Int)]) b) (List.range n)).flatten := by
        intro n
        induction n with
        | zero => rfl
        | succ n ihn =>
          rw [List.range_succ, List.map_append, List.map_append, List.flatten_append, List.flatten_append, List.filter_append, ihn]
          congr 1
          simp only [List.map_cons, List.map_nil, List.flatten_cons, List.flatten_nil, List.append_nil]
          rw [mkR, List.filter_cons, if_neg (by simp [w1]), List.filter_append, ihb _ _ hb, List.filter_cons, if_neg (by simp [w2])]
          simp
      exact key _
theorem filter_at {α : Type} (p : α → Bool) (L : List α) : ∀ (k : Nat) (x : α), L[k]? = some x → p x = true → (L.filter p)[((L.take k).filter p).length]? = some x := by
  induction L with
  | nil => intro k x h; simp at h
  | cons a L ih =>
    intro k x h hp
    cases k with
    | zero =>
      simp at h
      subst h
      simp [List.filter_cons, hp]
    | succ k =>
      simp only [List.getElem?_cons_succ] at h
      have := ih k x h hp
      simp only [List.take_succ_cons, List.filter_cons]
      by_cases ha : p a = true
      · rw [if_pos ha, if_pos ha]
        simpa using this
      · rw [if_neg ha, if_neg ha]
        exact this
/-- which number a mark has that is a write -/
theorem mks_number {f : Fo} (hf : f.ok) {k : Nat} {i : Nat} {rs : List Int} (h : (Fo.mks 0 [] f)[k]? = some (i, rs)) (hw : wB f.flat (i, rs) = true) :
    (f.atw (((Fo.mks 0 [] f).take k).filter (wB f.flat)).length) = (i, rs) ∧ (((Fo.mks 0 [] f).take k).filter (wB f.flat)).length < f.wr := by
  have h1 := filter_at (wB f.flat) _ k _ h hw
  rw [mks_writes f 0 [] (Stands.whole hf)] at h1
  have h2 : (((Fo.mks 0 [] f).take k).filter (wB f.flat)).length < f.wr := by
    have := (List.getElem?_eq_some_iff.1 h1).1
    rwa [Fo.wm_length] at this
  rw [Fo.wm_get f 0 [] _ h2] at h1
  injection h1 with h1
  simp only [Nat.zero_add, List.nil_append] at h1
  exact ⟨h1, h2⟩
theorem mks_has {f : Fo} (hf : f.ok) {n : Nat} (hn : n < f.wr) : ∃ k : Nat, (Fo.mks 0 [] f)[k]? = some (f.atw n) := by
  have h1 := Fo.wm_get f 0 [] n hn
  simp only [Nat.zero_add, List.nil_append] at h1
  rw [← mks_writes f 0 [] (Stands.whole hf)] at h1
  have h2 := (List.mem_filter.1 (List.mem_of_getElem? h1)).1
  obtain ⟨k, hk, e⟩ := List.mem_iff_getElem.1 h2
  exact ⟨k, by rw [List.getElem?_eq_getElem hk, e]⟩
end Go.Proofs.Ythncfoompoheoaa
