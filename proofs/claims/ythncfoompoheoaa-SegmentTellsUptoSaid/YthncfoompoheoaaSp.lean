/- Plain facts: the marks of a block's round are told by their number. -/
import Derived.Test.YthncfoompoheoaaSo
import Derived.Test.YthncfoompoheoaaMk
namespace Go.Proofs.Ythncfoompoheoaa
set_option linter.unusedVariables false
set_option linter.unusedSimpArgs false
theorem Fo.rok_len (f : Fo) : ∀ (o j : Nat) (rs : List Int), f.rok j rs → (pth o f j).length = rs.length := by
  induction f with
  | nil => intro o j rs h; rw [Fo.rok] at h; subst h; rfl
  | leaf op r ih =>
    intro o j rs h
    rw [Fo.rok] at h
    rw [Fo.pth]
    by_cases h0 : j = 0
    · rw [if_pos h0] at h ⊢; subst h; rfl
    · rw [if_neg h0] at h ⊢; exact ih _ _ _ h
  | rep op b fin r ihb ihr =>
    intro o j rs h
    rw [Fo.rok] at h
    rw [Fo.pth]
    by_cases h0 : j = 0
    · rw [if_pos h0] at h ⊢; subst h; rfl
    · rw [if_neg h0] at h ⊢
      by_cases h1 : j ≤ b.size + 1
      · rw [if_pos h1] at h ⊢
        obtain ⟨k, t, rfl, _, _, h⟩ := h
        rw [List.length_cons, List.length_cons, ihb _ _ _ h]
      · rw [if_neg h1] at h ⊢; exact ihr _ _ _ h
/-- within a block as many rounds stand as the block has -/
theorem Fo.in_len (f : Fo) : ∀ (i j : Nat) (rs r : List Int), f.isB i → f.rok (i + 1) rs → f.isW j → f.rok j r → i < j → j < f.fe i → rs.length ≤ r.length := by
  induction f with
  | nil => intro i j rs r h; exact h.elim
  | leaf op g ih =>
    intro i j rs r h hrs hw hr h1 h2
    rw [Fo.isB] at h
    by_cases h0 : i = 0
    · rw [if_pos h0] at h; exact h.elim
    rw [if_neg h0] at h
    rw [Fo.rok, if_neg (by omega), show i + 1 - 1 = i - 1 + 1 by omega] at hrs
    rw [Fo.rok, if_neg (by omega)] at hr
    rw [Fo.isW, if_neg (by omega)] at hw
    rw [Fo.fe, if_neg h0] at h2
    exact ih (i - 1) (j - 1) rs r h hrs hw hr (by omega) (by omega)
  | rep op b fin g ihb ihr =>
    intro i j rs r h hrs hw hr h1 h2
    rcases Fo.isB_rep h with rfl | ⟨k, rfl, hk, hb⟩ | ⟨k, rfl, hb⟩
    · obtain ⟨s, t, rfl, s0, s1, s2⟩ := Fo.rok_in (k := 0) (by omega) hrs
      obtain rfl := Fo.rok0 s2
      rw [Fo.fe, if_pos rfl] at h2
      obtain ⟨m, rfl⟩ : ∃ m, j = m + 1 := ⟨j - 1, by omega⟩
      obtain ⟨q, u, rfl, _, _, _⟩ := Fo.rok_in (k := m) (by omega) hr
      simp
    · obtain ⟨s, t, rfl, s0, s1, s2⟩ := Fo.rok_in (k := k + 1) (by omega) hrs
      have h3 := b.fe_lt k hb
      rw [Fo.fe, if_neg (by omega), if_pos (by omega), show k + 1 - 1 = k by omega] at h2
      rcases Fo.isW_rep hw with ⟨m, rfl, hm, hv⟩ | ⟨m, rfl, hv⟩
      · obtain ⟨q, u, rfl, q0, q1, q2⟩ := Fo.rok_in (k := m) (by omega) hr
        have := ihb k m t u hb s2 hv q2 (by omega) (by omega)
        simp only [List.length_cons]; omega
      · omega
    · rw [Fo.fe, if_neg (by omega), if_neg (by omega), show b.size + 2 + k - b.size - 2 = k by omega] at h2
      rcases Fo.isW_rep hw with ⟨m, rfl, hm, hv⟩ | ⟨m, rfl, hv⟩
      · omega
      · exact ihr k m rs r hb (Fo.rok_out (k := k + 1) hrs) hv (Fo.rok_out hr) (by omega) (by omega)
/-- a write's mark: ahead of a block's round, within it, or behind it, by its number -/
theorem seg_mark {f : Fo} (hf : f.ok) {i : Nat} {rs : List Int} (hi : f.isB i) (hrs : f.rok (i + 1) rs) {S : Nat} (hS : f.plc (i + 1) rs = (S : Int)) {L : List (Nat × List Int)} (hL : Fo.mks 0 [] f = L) {j : Nat} {z : Nat × List Int} (hz : L[j]? = some z) (hw : wB f.flat z = true) {cn : Nat} (hcn : ((L.take j).filter (wB f.flat)).length = cn) :
    f.isW z.1 ∧ f.rok z.1 z.2 ∧ (i < z.1 → z.1 < f.fe i → rs.length ≤ z.2.length) ∧
    ((i < z.1 ∧ z.1 < f.fe i ∧ z.2.take rs.length = rs ∧ S ≤ cn ∧ cn < S + f.rd i) ∨
      (¬ (i < z.1 ∧ z.1 < f.fe i ∧ z.2.take rs.length = rs) ∧ ((bef (Fo.pth 0 f z.1) (z.1 : Int) (Fo.pth 0 f (i + 1)) z.2 rs = true ∧ cn < S) ∨ (bef (Fo.pth 0 f z.1) (z.1 : Int) (Fo.pth 0 f (i + 1)) z.2 rs = false ∧ S + f.rd i ≤ cn)))) := by
  subst hL
  obtain ⟨zi, zr⟩ := z
  obtain ⟨m1, m2⟩ := mks_number hf hz hw
  rw [hcn] at m1 m2
  obtain ⟨k1, k2, k3⟩ := f.plc_atw cn m2
  rw [m1] at k1 k2 k3
  have ho := f.order 0 i zi rs zr hi hrs k3 k2
  rw [hS, k1, Nat.zero_add] at ho
  refine ⟨k3, k2, fun a b => f.in_len i zi rs zr hi hrs k3 k2 a b, ?_⟩
  rcases ho with ⟨a1, a2, a3, a4, a5⟩ | ⟨a1, ⟨a2, a3⟩ | ⟨a2, a3⟩⟩
  · exact .inl ⟨a1, a2, a3, by omega, by omega⟩
  · exact .inr ⟨a1, .inl ⟨a2, by omega⟩⟩
  · exact .inr ⟨a1, .inr ⟨a2, by omega⟩⟩
end Go.Proofs.Ythncfoompoheoaa
