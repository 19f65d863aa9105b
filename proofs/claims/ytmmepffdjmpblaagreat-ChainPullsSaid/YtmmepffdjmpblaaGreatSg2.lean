/- Plain facts on where a write stands among all: by the blocks around it, as the program finds it. No program is named here. -/
import Derived.Test.YtmmepffdjmpblaaGreatSg
import Derived.Test.YtmmepffdjmpblaaGreatQf
namespace Go.Proofs.YtmmepffdjmpblaaGreat
set_option linter.unusedVariables false
set_option linter.unusedSimpArgs false
open Go.RowKit
namespace Fo
/-- an item of the forest begins at j, or the forest ends there -/
def bnd : Fo → Nat → Prop
  | .nil, j => j = 0
  | .leaf _ r, j => j = 0 ∨ (1 ≤ j ∧ bnd r (j - 1))
  | .rep _ b _ r, j => j = 0 ∨ (b.size + 2 ≤ j ∧ bnd r (j - b.size - 2))
/-- the writes of the items ahead of j -/
def top : Fo → Nat → Nat
  | .nil, _ => 0
  | .leaf _ r, j => if j = 0 then 0 else 1 + top r (j - 1)
  | .rep op b _ r, j => if j = 0 then 0 else b.wr * op.v.toNat + top r (j - b.size - 2)
/-- the blocks within which j stands (their ends within them) -/
def pth : Nat → Fo → Nat → List Int
  | _, .nil, _ => []
  | o, .leaf _ r, j => if j = 0 then [] else pth (o + 1) r (j - 1)
  | o, .rep _ b _ r, j => if j = 0 then [] else if j ≤ b.size + 1 then (o : Int) :: pth (o + 1) b (j - 1) else pth (o + b.size + 2) r (j - b.size - 2)
/-- rounds whose writes are not too many -/
def prd : Fo → Nat → List Int → Prop
  | .nil, _, rs => rs = []
  | .leaf _ r, j, rs => if j = 0 then rs = [] else prd r (j - 1) rs
  | .rep op b _ r, j, rs => if j = 0 then rs = [] else if j ≤ b.size + 1 then (∃ k t, rs = k :: t ∧ 0 ≤ k * (b.wr : Int) ∧ k * (b.wr : Int) ≤ 65536 ∧ prd b (j - 1) t) else prd r (j - b.size - 2) rs
theorem bnd_zero (f : Fo) : f.bnd 0 := by cases f <;> simp [bnd]
theorem bnd_le (f : Fo) : ∀ j, f.bnd j → j ≤ f.size := by
  induction f with
  | nil => intro j h; rw [bnd] at h; omega
  | leaf op r ih => intro j h; rw [size_leaf]; rw [bnd] at h; rcases h with h | ⟨h1, h2⟩ <;> first | omega | (have := ih _ h2; omega)
  | rep op b fin r ihb ihr => intro j h; rw [size_rep]; rw [bnd] at h; rcases h with h | ⟨h1, h2⟩ <;> first | omega | (have := ihr _ h2; omega)
theorem top_le (f : Fo) : ∀ j, f.top j ≤ f.wr := by
  induction f with
  | nil => intro j; exact Nat.le_refl _
  | leaf op r ih => intro j; rw [top, wr]; split <;> first | omega | (have := ih (j - 1); omega)
  | rep op b fin r ihb ihr => intro j; rw [top, wr]; split <;> first | omega | (have := ihr (j - b.size - 2); omega)
theorem top_size (f : Fo) : f.top f.size = f.wr := by
  induction f with
  | nil => rfl
  | leaf op r ih => rw [size_leaf, top, if_neg (by omega), wr, Nat.add_sub_cancel, ih]; omega
  | rep op b fin r ihb ihr => rw [size_rep, top, if_neg (by omega), wr, show b.size + r.size + 2 - b.size - 2 = r.size by omega, ihr]
theorem bnd_size (f : Fo) : f.bnd f.size := by
  induction f with
  | nil => rfl
  | leaf op r ih => rw [size_leaf, bnd]; exact .inr ⟨by omega, ih⟩
  | rep op b fin r ihb ihr => rw [size_rep, bnd]; exact .inr ⟨by omega, by rw [show b.size + r.size + 2 - b.size - 2 = r.size by omega]; exact ihr⟩
theorem prd_of_rok (f : Fo) (hm : f.may = true) : ∀ j rs, f.rok j rs → f.prd j rs := by
  induction f with
  | nil => intro j rs h; exact h
  | leaf op r ih =>
    intro j rs h
    simp only [may] at hm
    rw [rok] at h; rw [prd]
    split at h
    · rename_i e; rw [if_pos e]; exact h
    · rename_i e; rw [if_neg e]; exact ih hm _ _ h
  | rep op b fin r ihb ihr =>
    intro j rs h
    simp only [may, Bool.and_eq_true, decide_eq_true_eq] at hm
    obtain ⟨⟨⟨m1, m2⟩, m3⟩, m4⟩ := hm
    rw [rok] at h; rw [prd]
    by_cases h0 : j = 0
    · rw [if_pos h0] at h ⊢; exact h
    · rw [if_neg h0] at h ⊢
      by_cases h1 : j ≤ b.size + 1
      · rw [if_pos h1] at h ⊢
        obtain ⟨k, t, rfl, k0, k1, ht⟩ := h
        obtain ⟨kk, rfl⟩ := Int.eq_ofNat_of_zero_le k0
        have hk : kk ≤ op.v.toNat := by omega
        have hmul : kk * b.wr ≤ op.v.toNat * b.wr := Nat.mul_le_mul_right _ hk
        rw [Nat.mul_comm op.v.toNat] at hmul
        have e : (kk : Int) * (b.wr : Int) = ((kk * b.wr : Nat) : Int) := by simp
        try simp only [Int.ofNat_eq_natCast]
        exact ⟨_, t, rfl, by rw [e]; omega, by rw [e]; omega, ihb m1 _ _ ht⟩
      · rw [if_neg h1] at h ⊢; exact ihr m4 _ _ h
theorem pth_nil (f : Fo) : ∀ o j, j ≤ f.size → pth o f j = [] → f.bnd j ∧ ∀ rs, f.plc j rs = (f.top j : Int) := by
  induction f with
  | nil => intro o j hj _; exact ⟨show j = 0 by simpa [size, flat] using hj, fun rs => rfl⟩
  | leaf op r ih =>
    intro o j hj h
    rw [size_leaf] at hj
    rw [pth] at h
    by_cases h0 : j = 0
    · exact ⟨.inl h0, fun rs => by rw [plc, top, if_pos h0, if_pos h0]; rfl⟩
    · rw [if_neg h0] at h
      obtain ⟨i1, i2⟩ := ih _ (j - 1) (by omega) h
      exact ⟨.inr ⟨by omega, i1⟩, fun rs => by rw [plc, top, if_neg h0, if_neg h0, i2]; simp⟩
  | rep op b fin r ihb ihr =>
    intro o j hj h
    rw [size_rep] at hj
    rw [pth] at h
    by_cases h0 : j = 0
    · exact ⟨.inl h0, fun rs => by rw [plc, top, if_pos h0, if_pos h0]; rfl⟩
    · rw [if_neg h0] at h
      by_cases h1 : j ≤ b.size + 1
      · rw [if_pos h1] at h; cases h
      · rw [if_neg h1] at h
        obtain ⟨i1, i2⟩ := ihr _ (j - b.size - 2) (by omega) h
        exact ⟨.inr ⟨by omega, i1⟩, fun rs => by rw [plc, top, if_neg h0, if_neg h1, if_neg h0, i2]; simp⟩
theorem pth_cons {l : List OpD} {m : List Int} (f : Fo) : ∀ (o j : Nat) (q : Int) (t : List Int), Stands l m o f → pth o f j = q :: t →
    ∃ (d : Nat) (op : OpD) (b : Fo) (fin : OpD) (r : Fo), q = ((o + d : Nat) : Int) ∧ f.bnd d ∧ Stands l m (o + d) (.rep op b fin r) ∧ d + 1 ≤ j ∧ j ≤ d + b.size + 1 ∧ t = pth (o + d + 1) b (j - d - 1) ∧ f.top d + b.wr * op.v.toNat ≤ f.wr ∧
      (∀ rs, f.plc j rs = (f.top d : Int) + rs.headD 0 * (b.wr : Int) + b.plc (j - d - 1) rs.tail) ∧
      (∀ rs, f.prd j rs → ∃ k t', rs = k :: t' ∧ 0 ≤ k * (b.wr : Int) ∧ k * (b.wr : Int) ≤ 65536 ∧ b.prd (j - d - 1) t') ∧
      (∀ rs, f.rok j rs ↔ ∃ k t', rs = k :: t' ∧ 0 ≤ k ∧ k < (op.v.toNat : Int) ∧ b.rok (j - d - 1) t') := by
  induction f with
  | nil => intro o j q t _ h; cases h
  | leaf op r ih =>
    intro o j q t hs h
    rw [pth] at h
    by_cases h0 : j = 0
    · rw [if_pos h0] at h; cases h
    · rw [if_neg h0] at h
      obtain ⟨d, op', b, fin, r', e1, e2, e3, e4, e5, e6, e7, e8, e9, e10⟩ := ih _ _ _ _ hs.leaf.2.2.2.2 h
      refine ⟨d + 1, op', b, fin, r', by rw [e1]; omega, .inr ⟨by omega, by simpa using e2⟩, by rw [show o + (d + 1) = o + 1 + d by omega]; exact e3, by omega, by omega, by rw [e6, show o + 1 + d + 1 = o + (d + 1) + 1 by omega, show j - 1 - d - 1 = j - (d + 1) - 1 by omega], ?_, fun rs => ?_, fun rs hr => ?_, fun rs => ?_⟩
      · rw [top, if_neg (by omega), wr, Nat.add_sub_cancel]; omega
      · rw [plc, if_neg h0, e8, top, if_neg (by omega), Nat.add_sub_cancel, show j - 1 - d - 1 = j - (d + 1) - 1 by omega]
        omega
      · rw [prd, if_neg h0] at hr
        rw [show j - (d + 1) - 1 = j - 1 - d - 1 by omega]
        exact e9 rs hr
      · rw [rok, if_neg h0, show j - (d + 1) - 1 = j - 1 - d - 1 by omega]
        exact e10 rs
  | rep op b fin r ihb ihr =>
    intro o j q t hs h
    rw [pth] at h
    by_cases h0 : j = 0
    · rw [if_pos h0] at h; cases h
    · rw [if_neg h0] at h
      by_cases h1 : j ≤ b.size + 1
      · rw [if_pos h1] at h
        injection h with h2 h3
        refine ⟨0, op, b, fin, r, h2.symm, .inl rfl, hs, by omega, by omega, h3.symm, ?_, fun rs => ?_, fun rs hr => ?_, fun rs => ?_⟩
        · rw [top, if_pos rfl, wr]; omega
        · rw [plc, if_neg h0, if_pos h1, top, if_pos rfl]; simp
        · rw [prd, if_neg h0, if_pos h1] at hr; exact hr
        · rw [rok, if_neg h0, if_pos h1]; exact Iff.rfl
      · rw [if_neg h1] at h
        obtain ⟨d, op', b', fin', r', e1, e2, e3, e4, e5, e6, e7, e8, e9, e10⟩ := ihr _ _ _ _ hs.rep.2.2.2.2.2.2.2 h
        refine ⟨d + b.size + 2, op', b', fin', r', by rw [e1]; omega, .inr ⟨by omega, by rw [show d + b.size + 2 - b.size - 2 = d by omega]; exact e2⟩, by rw [show o + (d + b.size + 2) = o + b.size + 2 + d by omega]; exact e3, by omega, by omega, by rw [e6, show o + b.size + 2 + d + 1 = o + (d + b.size + 2) + 1 by omega, show j - b.size - 2 - d - 1 = j - (d + b.size + 2) - 1 by omega], ?_, fun rs => ?_, fun rs hr => ?_, fun rs => ?_⟩
        · rw [top, if_neg (by omega), wr, show d + b.size + 2 - b.size - 2 = d by omega]; omega
        · rw [plc, if_neg h0, if_neg h1, e8, top, if_neg (by omega), show d + b.size + 2 - b.size - 2 = d by omega, show j - b.size - 2 - d - 1 = j - (d + b.size + 2) - 1 by omega]
          omega
        · rw [prd, if_neg h0, if_neg h1] at hr
          rw [show j - (d + b.size + 2) - 1 = j - b.size - 2 - d - 1 by omega]
          exact e9 rs hr
        · rw [rok, if_neg h0, if_neg h1, show j - (d + b.size + 2) - 1 = j - b.size - 2 - d - 1 by omega]
          exact e10 rs
theorem rok_nil (f : Fo) : ∀ o j, j ≤ f.size → pth o f j = [] → ∀ rs, f.rok j rs ↔ rs = [] := by
  induction f with
  | nil => intro o j _ _ rs; exact Iff.rfl
  | leaf op r ih =>
    intro o j hj h rs
    rw [size_leaf] at hj
    rw [pth] at h
    rw [rok]
    by_cases h0 : j = 0
    · rw [if_pos h0]
    · rw [if_neg h0] at h ⊢
      exact ih _ _ (by omega) h rs
  | rep op b fin r ihb ihr =>
    intro o j hj h rs
    rw [size_rep] at hj
    rw [pth] at h
    rw [rok]
    by_cases h0 : j = 0
    · rw [if_pos h0]
    · rw [if_neg h0] at h ⊢
      by_cases h1 : j ≤ b.size + 1
      · rw [if_pos h1] at h; cases h
      · rw [if_neg h1] at h ⊢
        exact ihr _ _ (by omega) h rs
/-- the blocks around, but of an end -/
theorem encl_pth (f : Fo) (hf : f.ok) : ∀ (o j : Nat) (x : OpD), f.flat[j]? = some x → x.kind ≠ 0 → encl o f j = pth o f j ∧ (x.kind = 7 → pth o f (j + 1) = pth o f j ++ [((o + j : Nat) : Int)]) := by
  induction f with
  | nil => intro o j x h; simp [flat] at h
  | leaf op r ih =>
    intro o j x h hx
    obtain ⟨h1, h2, h3⟩ := hf
    rw [encl, pth]
    cases j with
    | zero =>
      simp [flat] at h
      subst h
      exact ⟨rfl, fun h7 => by omega⟩
    | succ j =>
      obtain ⟨i1, i2⟩ := ih h3 (o + 1) j x (by simpa [flat] using h) hx
      refine ⟨by simpa using i1, fun h7 => ?_⟩
      have := i2 h7
      simp only [pth, Nat.add_sub_cancel]
      rw [if_neg (by omega), if_neg (by omega), this, show o + 1 + j = o + (j + 1) by omega]
  | rep op b fin r ihb ihr =>
    intro o j x h hx
    obtain ⟨h1, h2, h3, h4⟩ := hf
    have hbs : b.size = b.flat.length := rfl
    cases j with
    | zero =>
      simp [flat] at h
      subst h
      refine ⟨by simp [encl, pth], fun h7 => ?_⟩
      simp only [pth]
      rw [if_neg (by omega), if_pos (by omega), if_pos trivial]
      simp only [Nat.zero_add, Nat.sub_self, Nat.add_zero, List.nil_append]
      cases b <;> simp [pth]
    | succ j =>
      have h' : (b.flat ++ fin :: r.flat)[j]? = some x := by simpa [flat] using h
      by_cases hj : j < b.flat.length
      · rw [List.getElem?_append_left hj] at h'
        obtain ⟨i1, i2⟩ := ihb h2 (o + 1) j x h' hx
        refine ⟨?_, fun h7 => ?_⟩
        · rw [encl, pth, if_neg (by omega), if_pos (by omega), if_neg (by omega), if_pos (by omega)]
          simpa using i1
        · have := i2 h7
          simp only [pth, Nat.add_sub_cancel]
          rw [if_neg (by omega), if_pos (by omega), if_neg (by omega), if_pos (by omega), this, show o + 1 + j = o + (j + 1) by omega]
          rfl
      · rw [List.getElem?_append_right (by omega)] at h'
        obtain ⟨j', hj'⟩ : ∃ j', j - b.flat.length = j' := ⟨_, rfl⟩
        rw [hj'] at h'
        cases j' with
        | zero =>
          simp at h'
          subst h'
          exact absurd h3 hx
        | succ j' =>
          obtain ⟨i1, i2⟩ := ihr h4 (o + b.size + 2) j' x (by simpa using h') hx
          refine ⟨?_, fun h7 => ?_⟩
          · rw [encl, pth, if_neg (by omega), if_neg (by omega), if_neg (by omega), if_neg (by omega), if_neg (by omega)]
            rw [show j + 1 - b.size - 2 = j' by omega]
            exact i1
          · have := i2 h7
            simp only [pth]
            rw [if_neg (by omega), if_neg (by omega), if_neg (by omega), if_neg (by omega), show j + 1 + 1 - b.size - 2 = j' + 1 by omega, show j + 1 - b.size - 2 = j' by omega, this, show o + b.size + 2 + j' = o + (j + 1) by omega]
theorem rok_zero (f : Fo) (rs : List Int) : f.rok 0 rs ↔ rs = [] := by cases f <;> simp [rok]
theorem plc_zero (f : Fo) (rs : List Int) : f.plc 0 rs = 0 := by cases f <;> simp [plc]
theorem prd_zero (f : Fo) (rs : List Int) : f.prd 0 rs ↔ rs = [] := by cases f <;> simp [prd]
theorem pth_zero (o : Nat) (f : Fo) : pth o f 0 = [] := by cases f <;> simp [pth]
/-- a write lies in the segment of each block around it -/
theorem seg_in {l : List OpD} {m : List Int} (f : Fo) : ∀ (o j : Nat) (rs : List Int), Stands l m o f → f.rok j rs → f.isW j → ∀ (k : Nat) (q : Int), (pth o f j)[k]? = some q →
    ∃ (d : Nat) (op : OpD) (b : Fo) (fin : OpD) (r : Fo), q = ((o + d : Nat) : Int) ∧ Stands l m (o + d) (.rep op b fin r) ∧ d + 2 ≤ f.size ∧ pth o f (d + 1) = (pth o f j).take (k + 1) ∧ f.rok (d + 1) (rs.take (k + 1)) ∧
      f.plc (d + 1) (rs.take (k + 1)) ≤ f.plc j rs ∧ f.plc j rs < f.plc (d + 1) (rs.take (k + 1)) + (b.wr : Int) := by
  induction f with
  | nil => intro o j rs _ _ h; exact h.elim
  | leaf op r ih =>
    intro o j rs hs hr hw k q hk
    rw [rok] at hr
    rw [isW] at hw
    rw [pth] at hk ⊢
    rw [plc]
    by_cases h0 : j = 0
    · rw [if_pos h0] at hk; simp at hk
    · rw [if_neg h0] at hr hw hk ⊢
      rw [if_neg h0]
      obtain ⟨d, op', b, fin, r', e1, e2, e3, e4, e5, e6, e7⟩ := ih _ _ _ hs.leaf.2.2.2.2 hr hw k q hk
      refine ⟨d + 1, op', b, fin, r', by rw [e1]; omega, by rw [show o + (d + 1) = o + 1 + d by omega]; exact e2, by rw [size_leaf]; omega, ?_, ?_, ?_, ?_⟩
      · rw [pth, if_neg (by omega), Nat.add_sub_cancel]; exact e4
      · rw [rok, if_neg (by omega), Nat.add_sub_cancel]; exact e5
      · rw [plc, if_neg (by omega), Nat.add_sub_cancel]; omega
      · rw [plc, if_neg (by omega), Nat.add_sub_cancel]; omega
  | rep op b fin r ihb ihr =>
    intro o j rs hs hr hw k q hk
    rw [rok] at hr
    rw [isW] at hw
    rw [pth] at hk ⊢
    rw [plc]
    by_cases h0 : j = 0
    · rw [if_pos h0] at hk; simp at hk
    · rw [if_neg h0] at hr hw hk ⊢
      rw [if_neg h0]
      by_cases h1 : j ≤ b.size + 1
      · rw [if_pos h1] at hr hw hk ⊢
        rw [if_pos h1]
        obtain ⟨k0, t, rfl, k00, k01, ht⟩ := hr
        have hbd := plc_bd b _ _ ht
        cases k with
        | zero =>
          simp at hk
          refine ⟨0, op, b, fin, r, by rw [← hk]; simp, hs, by rw [size_rep]; omega, ?_, ?_, ?_, ?_⟩
          · rw [pth, if_neg (by omega), if_pos (by omega)]; simp [pth_zero]
          · rw [rok, if_neg (by omega), if_pos (by omega)]; exact ⟨k0, [], by simp, k00, k01, (rok_zero _ _).2 rfl⟩
          · rw [plc, if_neg (by omega), if_pos (by omega)]; simp only [List.take_succ_cons, List.take_zero, List.headD_cons, List.tail_cons, Nat.zero_add, Nat.sub_self, plc_zero]; omega
          · rw [plc, if_neg (by omega), if_pos (by omega)]; simp only [List.take_succ_cons, List.take_zero, List.headD_cons, List.tail_cons, Nat.zero_add, Nat.sub_self, plc_zero]; have := hbd.2.2 hw; omega
        | succ k =>
          rw [List.getElem?_cons_succ] at hk
          obtain ⟨d, op', b', fin', r', e1, e2, e3, e4, e5, e6, e7⟩ := ihb _ _ _ hs.rep.2.2.2.2.2.2.1 ht hw k q hk
          refine ⟨d + 1, op', b', fin', r', by rw [e1]; omega, by rw [show o + (d + 1) = o + 1 + d by omega]; exact e2, by rw [size_rep]; omega, ?_, ?_, ?_, ?_⟩
          · rw [pth, if_neg (by omega), if_pos (by omega), Nat.add_sub_cancel, e4]; rfl
          · rw [rok, if_neg (by omega), if_pos (by omega), Nat.add_sub_cancel]; exact ⟨k0, _, by rw [List.take_succ_cons], k00, k01, e5⟩
          · rw [plc, if_neg (by omega), if_pos (by omega), Nat.add_sub_cancel, List.take_succ_cons]; simp only [List.headD_cons, List.tail_cons]; omega
          · rw [plc, if_neg (by omega), if_pos (by omega), Nat.add_sub_cancel, List.take_succ_cons]; simp only [List.headD_cons, List.tail_cons]; omega
      · rw [if_neg h1] at hr hw hk ⊢
        rw [if_neg h1]
        obtain ⟨d, op', b', fin', r', e1, e2, e3, e4, e5, e6, e7⟩ := ihr _ _ _ hs.rep.2.2.2.2.2.2.2 hr hw k q hk
        refine ⟨d + b.size + 2, op', b', fin', r', by rw [e1]; omega, by rw [show o + (d + b.size + 2) = o + b.size + 2 + d by omega]; exact e2, by rw [size_rep]; omega, ?_, ?_, ?_, ?_⟩
        · rw [pth, if_neg (by omega), if_neg (by omega), show d + b.size + 2 + 1 - b.size - 2 = d + 1 by omega]; exact e4
        · rw [rok, if_neg (by omega), if_neg (by omega), show d + b.size + 2 + 1 - b.size - 2 = d + 1 by omega]; exact e5
        · rw [plc, if_neg (by omega), if_neg (by omega), show d + b.size + 2 + 1 - b.size - 2 = d + 1 by omega]; omega
        · rw [plc, if_neg (by omega), if_neg (by omega), show d + b.size + 2 + 1 - b.size - 2 = d + 1 by omega]; omega
theorem no_both {l : List OpD} {m : List Int} {o : Nat} {op op' fin' : OpD} {b' r r' : Fo} (h : Stands l m o (.leaf op r)) (h' : Stands l m o (.rep op' b' fin' r')) : False := by
  have h1 := h.leaf
  have h2 := h'.rep
  have e : op = op' := by have := h1.1.symm.trans h2.1; simpa using this
  have := h2.2.1
  rw [← e] at this
  omega
/-- the next round of a block -/
theorem seg_last {l : List OpD} {m : List Int} (f : Fo) : ∀ (o i : Nat) (op : OpD) (b : Fo) (fin : OpD) (r : Fo) (rs : List Int) (k' : Int), f.may = true → Stands l m o f → Stands l m (o + i) (.rep op b fin r) → i < f.size → f.rok (i + 1) rs → (b.wr ≠ 0 → k' = rs.getLast?.getD 0 + 1) →
    rs ≠ [] ∧ f.prd (i + 1) (rs.dropLast ++ [k']) ∧ f.plc (i + 1) (rs.dropLast ++ [k']) = f.plc (i + 1) rs + (b.wr : Int) := by
  induction f with
  | nil => intro o i op b fin r rs k' _ _ _ hi; simp [size, flat] at hi
  | leaf op0 r0 ih =>
    intro o i op b fin r rs k' hm hs hq hi hr hk
    simp only [may] at hm
    cases i with
    | zero => exact (no_both hs hq).elim
    | succ i =>
      rw [size_leaf] at hi
      rw [rok, if_neg (by omega), Nat.add_sub_cancel] at hr
      obtain ⟨i1, i2, i3⟩ := ih (o + 1) i op b fin r rs k' hm hs.leaf.2.2.2.2 (by rw [show o + 1 + i = o + (i + 1) by omega]; exact hq) (by omega) hr hk
      refine ⟨i1, ?_, ?_⟩
      · rw [prd, if_neg (by omega), Nat.add_sub_cancel]; exact i2
      · rw [plc, plc, if_neg (by omega), if_neg (by omega), Nat.add_sub_cancel, i3]; omega
  | rep op0 b0 fin0 r0 ihb ihr =>
    intro o i op b fin r rs k' hm hs hq hi hr hk
    simp only [may, Bool.and_eq_true, decide_eq_true_eq] at hm
    obtain ⟨⟨⟨m1, m2⟩, m3⟩, m4⟩ := hm
    rw [size_rep] at hi
    cases i with
    | zero =>
      obtain ⟨rfl, rfl⟩ := Stands.one hs hq
      rw [rok, if_neg (by omega), if_pos (by omega)] at hr
      obtain ⟨k, t, rfl, k0, k1, ht⟩ := hr
      obtain rfl := (rok_zero _ _).1 ht
      obtain ⟨kk, rfl⟩ := Int.eq_ofNat_of_zero_le k0
      try simp only [Int.ofNat_eq_natCast] at *
      have hkk : kk + 1 ≤ op0.v.toNat := by omega
      have hmul : (kk + 1) * b0.wr ≤ op0.v.toNat * b0.wr := Nat.mul_le_mul_right _ hkk
      rw [Nat.mul_comm op0.v.toNat] at hmul
      have e9 : k' * (b0.wr : Int) = (((kk + 1) * b0.wr : Nat) : Int) := by
        by_cases h0 : b0.wr = 0
        · rw [h0]; simp
        · rw [hk h0]; simp
      refine ⟨by simp, ?_, ?_⟩
      · rw [prd, if_neg (by omega), if_pos (by omega)]
        exact ⟨k', [], by simp, by rw [e9]; omega, by rw [e9]; omega, (prd_zero _ _).2 rfl⟩
      · rw [plc, plc, if_neg (by omega), if_pos (by omega), if_neg (by omega), if_pos (by omega)]
        simp only [List.dropLast_singleton, List.nil_append, List.headD_cons, List.tail_cons, Nat.zero_add, Nat.sub_self, plc_zero]
        rw [e9]
        simp only [Nat.add_mul, Nat.one_mul, Int.natCast_add, Int.natCast_mul]
        omega
    | succ i =>
      by_cases h1 : i + 1 < b0.size + 1
      · rw [rok, if_neg (by omega), if_pos (by omega), Nat.add_sub_cancel] at hr
        obtain ⟨k, t, rfl, k0, k1, ht⟩ := hr
        have hne : t ≠ [] := by
          intro e
          subst e
          have := ihb (o + 1) i op b fin r [] 1 m1 hs.rep.2.2.2.2.2.2.1 (by rw [show o + 1 + i = o + (i + 1) by omega]; exact hq) (by omega) ht (fun _ => rfl)
          exact this.1 rfl
        obtain ⟨i1, i2, i3⟩ := ihb (o + 1) i op b fin r t k' m1 hs.rep.2.2.2.2.2.2.1 (by rw [show o + 1 + i = o + (i + 1) by omega]; exact hq) (by omega) ht (fun h0 => by rw [hk h0, List.getLast?_cons]; cases h9 : t.getLast? with | none => exact absurd (List.getLast?_eq_none_iff.1 h9) hne | some v => simp)
        have hdl : (k :: t).dropLast = k :: t.dropLast := List.dropLast_cons_of_ne_nil hne
        obtain ⟨kk, rfl⟩ := Int.eq_ofNat_of_zero_le k0
        try simp only [Int.ofNat_eq_natCast] at *
        have hkk : kk ≤ op0.v.toNat := by omega
        have hmul : kk * b0.wr ≤ op0.v.toNat * b0.wr := Nat.mul_le_mul_right _ hkk
        rw [Nat.mul_comm op0.v.toNat] at hmul
        have e : (kk : Int) * (b0.wr : Int) = ((kk * b0.wr : Nat) : Int) := by simp
        refine ⟨by simp, ?_, ?_⟩
        · rw [prd, if_neg (by omega), if_pos (by omega), Nat.add_sub_cancel, hdl]
          exact ⟨_, _, by rw [List.cons_append], by rw [e]; omega, by rw [e]; omega, i2⟩
        · rw [plc, plc, if_neg (by omega), if_pos (by omega), if_neg (by omega), if_pos (by omega), Nat.add_sub_cancel, hdl]
          simp only [List.cons_append, List.headD_cons, List.tail_cons]
          rw [i3]; omega
      · by_cases h2 : i + 1 = b0.size + 1
        · have h3 := hs.rep
          have h4 := hq.rep
          rw [show o + (i + 1) = o + b0.size + 1 by omega] at h4
          have e : fin0 = op := by have := h3.2.2.2.1.symm.trans h4.1; simpa using this
          have := h3.2.2.2.2.1
          rw [e, h4.2.1] at this
          omega
        · obtain ⟨i', rfl⟩ : ∃ i', i = i' + b0.size + 1 := ⟨i - b0.size - 1, by omega⟩
          rw [rok, if_neg (by omega), if_neg (by omega), show i' + b0.size + 1 + 1 + 1 - b0.size - 2 = i' + 1 by omega] at hr
          obtain ⟨i1, i2, i3⟩ := ihr (o + b0.size + 2) i' op b fin r rs k' m4 hs.rep.2.2.2.2.2.2.2 (by rw [show o + b0.size + 2 + i' = o + (i' + b0.size + 1 + 1) by omega]; exact hq) (by omega) hr hk
          refine ⟨i1, ?_, ?_⟩
          · rw [prd, if_neg (by omega), if_neg (by omega), show i' + b0.size + 1 + 1 + 1 - b0.size - 2 = i' + 1 by omega]; exact i2
          · rw [plc, plc, if_neg (by omega), if_neg (by omega), if_neg (by omega), if_neg (by omega), show i' + b0.size + 1 + 1 + 1 - b0.size - 2 = i' + 1 by omega, i3]; omega
end Fo
end Go.Proofs.YtmmepffdjmpblaaGreat
