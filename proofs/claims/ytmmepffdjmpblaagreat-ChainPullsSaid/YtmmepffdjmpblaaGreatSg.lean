/- Plain facts on where a write stands among all, by the rounds of the blocks around it. No program is named here. -/
import Derived.Test.YtmmepffdjmpblaaGreatQb
namespace Go.Proofs.YtmmepffdjmpblaaGreat
set_option linter.unusedVariables false
set_option linter.unusedSimpArgs false
open Go.RowKit

namespace Fo
/-- the writes ahead of place `j`, in rounds -/
def plc : Fo → Nat → List Int → Int
  | .nil, _, _ => 0
  | .leaf _ r, j, rs => if j = 0 then 0 else 1 + plc r (j - 1) rs
  | .rep op b _ r, j, rs => if j = 0 then 0 else if j ≤ b.size + 1 then rs.headD 0 * (b.wr : Int) + plc b (j - 1) rs.tail else ((b.wr * op.v.toNat : Nat) : Int) + plc r (j - b.size - 2) rs
/-- are rounds those of the blocks around place `j` (of which an end stands within)? -/
def rok : Fo → Nat → List Int → Prop
  | .nil, _, rs => rs = []
  | .leaf _ r, j, rs => if j = 0 then rs = [] else rok r (j - 1) rs
  | .rep op b _ r, j, rs => if j = 0 then rs = [] else if j ≤ b.size + 1 then (∃ k t, rs = k :: t ∧ 0 ≤ k ∧ k < (op.v.toNat : Int) ∧ rok b (j - 1) t) else rok r (j - b.size - 2) rs
/-- the write of a number -/
def atw : Fo → Nat → Nat × List Int
  | .nil, _ => (0, [])
  | .leaf _ r, n => if n = 0 then (0, []) else ((atw r (n - 1)).1 + 1, (atw r (n - 1)).2)
  | .rep op b _ r, n => if n < b.wr * op.v.toNat then ((atw b (n % b.wr)).1 + 1, ((n / b.wr : Nat) : Int) :: (atw b (n % b.wr)).2) else ((atw r (n - b.wr * op.v.toNat)).1 + b.size + 2, (atw r (n - b.wr * op.v.toNat)).2)
/-- all writes, in their order: places and rounds -/
def wm : Nat → List Int → Fo → List (Nat × List Int)
  | _, _, .nil => []
  | o, rs, .leaf _ r => (o, rs) :: wm (o + 1) rs r
  | o, rs, .rep op b _ r => ((List.range op.v.toNat).map fun (k : Nat) => wm (o + 1) (rs ++ [(k : Int)]) b).flatten ++ wm (o + b.size + 2) rs r
/-- is there a write at place `j`? -/
def isW : Fo → Nat → Prop
  | .nil, _ => False
  | .leaf _ r, j => if j = 0 then True else isW r (j - 1)
  | .rep _ b _ r, j => if j = 0 then False else if j ≤ b.size + 1 then isW b (j - 1) else isW r (j - b.size - 2)
theorem flat_len (α : Type) (n w : Nat) (f : Nat → List α) (h : ∀ k, (f k).length = w) : (((List.range n).map f).flatten).length = w * n := by
  induction n with
  | zero => simp
  | succ n ih => rw [List.range_succ, List.map_append, List.flatten_append, List.length_append, ih]; simp [h, Nat.mul_add]
theorem flat_get (α : Type) (n w : Nat) (f : Nat → List α) (h : ∀ k, (f k).length = w) (i : Nat) (hi : i < w * n) : (((List.range n).map f).flatten)[i]? = (f (i / w))[i % w]? := by
  induction n with
  | zero => simp at hi
  | succ n ih =>
    rw [List.range_succ, List.map_append, List.flatten_append]
    by_cases hlt : i < w * n
    · rw [List.getElem?_append_left (by rw [flat_len _ _ _ _ h]; exact hlt), ih hlt]
    · have hw : 0 < w := by
        rcases Nat.eq_zero_or_pos w with rfl | h0
        · simp at hi
        · exact h0
      have e1 : i / w = n := by
        rw [Nat.mul_add, Nat.mul_one] at hi
        exact Nat.div_eq_of_lt_le (by rw [Nat.mul_comm]; omega) (by rw [Nat.succ_mul, Nat.mul_comm]; omega)
      have e2 : i % w = i - w * n := by
        have := Nat.div_add_mod i w
        rw [e1] at this
        omega
      rw [List.getElem?_append_right (by rw [flat_len _ _ _ _ h]; omega), flat_len _ _ _ _ h]
      simp [e1, e2]
theorem wm_length (f : Fo) (o : Nat) (rs : List Int) : (wm o rs f).length = f.wr := by
  induction f generalizing o rs with
  | nil => rfl
  | leaf op r ih => simp [wm, wr, ih]
  | rep op b fin r ihb ihr => rw [wm, List.length_append, flat_len _ _ _ _ (fun k => ihb (o + 1) _), ihr]; rfl
theorem div_lt' {n w v : Nat} (h : n < w * v) : n / w < v := by
  rcases Nat.eq_zero_or_pos w with rfl | h0
  · simp at h
  · rw [Nat.div_lt_iff_lt_mul h0, Nat.mul_comm]; exact h
/-- The write of a number, among all. -/
theorem wm_get (f : Fo) : ∀ (o : Nat) (rs : List Int) (n : Nat), n < f.wr → (wm o rs f)[n]? = some (o + (f.atw n).1, rs ++ (f.atw n).2) := by
  induction f with
  | nil => intro o rs n h; simp [wr] at h
  | leaf op r ih =>
    intro o rs n h
    cases n with
    | zero => simp [wm, atw]
    | succ n =>
      simp only [wm, List.getElem?_cons_succ, atw]
      rw [if_neg (by omega), ih _ _ _ (by simp only [wr] at h; omega)]
      simp only [Nat.add_sub_cancel]
      congr 2
      omega
  | rep op b fin r ihb ihr =>
    intro o rs n h
    simp only [wr] at h
    simp only [wm, atw]
    have hl := flat_len _ op.v.toNat b.wr (fun (k : Nat) => wm (o + 1) (rs ++ [(k : Int)]) b) (fun k => wm_length b _ _)
    by_cases hn : n < b.wr * op.v.toNat
    · rw [if_pos hn, List.getElem?_append_left (by omega), flat_get _ _ b.wr _ (fun k => wm_length b _ _) n hn]
      have hw : 0 < b.wr := by
        rcases Nat.eq_zero_or_pos b.wr with e | h0
        · rw [e] at hn; simp at hn
        · exact h0
      rw [ihb _ _ _ (Nat.mod_lt _ hw)]
      simp only [List.append_assoc, List.singleton_append]
      congr 2
      omega
    · rw [if_neg hn, List.getElem?_append_right (by omega), hl, ihr _ _ _ (by omega)]
      congr 2
      omega
theorem atw_lt (f : Fo) : ∀ n, n < f.wr → (f.atw n).1 < f.size := by
  induction f with
  | nil => intro n h; simp [wr] at h
  | leaf op r ih =>
    intro n h
    simp only [wr] at h
    rw [size_leaf, atw]
    split
    · simp
    · have := ih (n - 1) (by omega); simp only; omega
  | rep op b fin r ihb ihr =>
    intro n h
    simp only [wr] at h
    rw [size_rep, atw]
    split
    · rename_i hn
      have hw : 0 < b.wr := by
        rcases Nat.eq_zero_or_pos b.wr with e | h0
        · rw [e] at hn; simp at hn
        · exact h0
      have := ihb _ (Nat.mod_lt n hw); simp only; omega
    · have := ihr (n - b.wr * op.v.toNat) (by omega); simp only; omega
theorem plc_end (f : Fo) : ∀ (j : Nat) (rs : List Int), f.size ≤ j → f.plc j rs = f.wr := by
  induction f with
  | nil => intro j rs _; rfl
  | leaf op r ih =>
    intro j rs h
    rw [size_leaf] at h
    rw [plc, if_neg (by omega), ih _ _ (by omega), wr]; omega
  | rep op b fin r ihb ihr =>
    intro j rs h
    rw [size_rep] at h
    rw [plc, if_neg (by omega), if_neg (by omega), ihr _ _ (by omega), wr]; omega
/-- A write's own number. -/
theorem plc_atw (f : Fo) : ∀ n, n < f.wr → f.plc (f.atw n).1 (f.atw n).2 = n ∧ f.rok (f.atw n).1 (f.atw n).2 ∧ f.isW (f.atw n).1 := by
  induction f with
  | nil => intro n h; simp [wr] at h
  | leaf op r ih =>
    intro n h
    simp only [wr] at h
    rw [atw]
    by_cases h0 : n = 0
    · subst h0; simp [plc, rok, isW]
    · obtain ⟨i1, i2, i3⟩ := ih (n - 1) (by omega)
      rw [if_neg h0]
      simp only [plc, rok, isW, Nat.add_sub_cancel, i1]
      rw [if_neg (by omega), if_neg (by omega), if_neg (by omega)]
      exact ⟨by omega, i2, i3⟩
  | rep op b fin r ihb ihr =>
    intro n h
    simp only [wr] at h
    rw [atw]
    by_cases hn : n < b.wr * op.v.toNat
    · have hw : 0 < b.wr := by
        rcases Nat.eq_zero_or_pos b.wr with e | h0
        · rw [e] at hn; simp at hn
        · exact h0
      obtain ⟨i1, i2, i3⟩ := ihb _ (Nat.mod_lt n hw)
      have hl := b.atw_lt _ (Nat.mod_lt n hw)
      rw [if_pos hn]
      simp only [plc, rok, isW, Nat.add_sub_cancel, i1, List.headD_cons, List.tail_cons]
      rw [if_neg (by omega), if_pos (by omega), if_neg (by omega), if_pos (by omega), if_neg (by omega), if_pos (by omega)]
      refine ⟨?_, ⟨_, _, rfl, Int.natCast_nonneg _, Int.ofNat_lt.2 (div_lt' hn), i2⟩, i3⟩
      have := Nat.div_add_mod n b.wr
      rw [Nat.mul_comm] at this
      rw [← Int.natCast_mul]
      omega
    · obtain ⟨i1, i2, i3⟩ := ihr (n - b.wr * op.v.toNat) (by omega)
      rw [if_neg hn]
      have e : (atw r (n - b.wr * op.v.toNat)).1 + b.size + 2 - b.size - 2 = (atw r (n - b.wr * op.v.toNat)).1 := by omega
      simp only [plc, rok, isW, e, i1]
      rw [if_neg (by omega), if_neg (by omega), if_neg (by omega), if_neg (by omega), if_neg (by omega), if_neg (by omega)]
      exact ⟨by omega, i2, i3⟩
theorem plc_bd (f : Fo) : ∀ (j : Nat) (rs : List Int), f.rok j rs → 0 ≤ f.plc j rs ∧ f.plc j rs ≤ f.wr ∧ (f.isW j → f.plc j rs < f.wr) := by
  induction f with
  | nil => intro j rs _; exact ⟨Int.le_refl _, Int.le_refl _, fun h => h.elim⟩
  | leaf op r ih =>
    intro j rs h
    rw [rok] at h
    rw [plc, wr, isW]
    by_cases h0 : j = 0
    · rw [if_pos h0, if_pos h0]; omega
    · rw [if_neg h0] at h
      have := ih _ _ h
      rw [if_neg h0, if_neg h0]
      exact ⟨by omega, by omega, fun hw => by have := this.2.2 hw; omega⟩
  | rep op b fin r ihb ihr =>
    intro j rs h
    rw [rok] at h
    rw [plc, wr, isW]
    have hnn : (0 : Int) ≤ ((b.wr * op.v.toNat : Nat) : Int) := by omega
    by_cases h0 : j = 0
    · rw [if_pos h0, if_pos h0]; exact ⟨by omega, by omega, fun h => h.elim⟩
    · rw [if_neg h0] at h
      rw [if_neg h0, if_neg h0]
      by_cases h1 : j ≤ b.size + 1
      · rw [if_pos h1] at h
        rw [if_pos h1, if_pos h1]
        obtain ⟨k, t, rfl, k0, k1, ht⟩ := h
        obtain ⟨i1, i2, i3⟩ := ihb _ _ ht
        obtain ⟨kk, rfl⟩ := Int.eq_ofNat_of_zero_le k0
        have hk : kk + 1 ≤ op.v.toNat := by omega
        have hm : (kk + 1) * b.wr ≤ op.v.toNat * b.wr := Nat.mul_le_mul_right _ hk
        rw [Nat.add_mul, Nat.one_mul, Nat.mul_comm op.v.toNat] at hm
        simp only [List.headD_cons, List.tail_cons]
        have e : (kk : Int) * (b.wr : Int) = ((kk * b.wr : Nat) : Int) := by simp
        try simp only [Int.ofNat_eq_natCast]
        rw [e]
        exact ⟨by omega, by omega, fun hw => by have := i3 hw; omega⟩
      · rw [if_neg h1] at h
        rw [if_neg h1, if_neg h1]
        have := ihr _ _ h
        exact ⟨by omega, by omega, fun hw => by have := this.2.2 hw; omega⟩
/-- A write in right rounds is that of its number. -/
theorem atw_plc (f : Fo) : ∀ (j : Nat) (rs : List Int), f.rok j rs → f.isW j → f.atw (f.plc j rs).toNat = (j, rs) := by
  induction f with
  | nil => intro j rs _ h; exact h.elim
  | leaf op r ih =>
    intro j rs h hw
    rw [rok] at h
    rw [isW] at hw
    rw [plc]
    by_cases h0 : j = 0
    · rw [if_pos h0] at h ⊢; subst h h0; rfl
    · rw [if_neg h0] at h hw ⊢
      obtain ⟨b1, b2, b3⟩ := plc_bd r _ _ h
      rw [atw, if_neg (by omega), show (1 + r.plc (j - 1) rs).toNat - 1 = (r.plc (j - 1) rs).toNat by omega, ih _ _ h hw]
      simp only
      congr 1
      omega
  | rep op b fin r ihb ihr =>
    intro j rs h hw
    have hbd := plc_bd _ _ _ h
    have hlt := hbd.2.2 hw
    rw [rok] at h
    rw [isW] at hw
    rw [plc] at *
    by_cases h0 : j = 0
    · rw [if_pos h0] at hw; exact hw.elim
    · rw [if_neg h0] at h hw
      simp only [if_neg h0] at hbd hlt ⊢
      by_cases h1 : j ≤ b.size + 1
      · rw [if_pos h1] at h hw
        simp only [if_pos h1] at hbd hlt ⊢
        obtain ⟨k, t, rfl, k0, k1, ht⟩ := h
        obtain ⟨i1, i2, i3⟩ := plc_bd b _ _ ht
        have i4 := i3 hw
        obtain ⟨kk, rfl⟩ := Int.eq_ofNat_of_zero_le k0
        obtain ⟨p, hp⟩ := Int.eq_ofNat_of_zero_le i1
        have hk : kk + 1 ≤ op.v.toNat := by omega
        have hm : (kk + 1) * b.wr ≤ op.v.toNat * b.wr := Nat.mul_le_mul_right _ hk
        rw [Nat.add_mul, Nat.one_mul, Nat.mul_comm op.v.toNat] at hm
        simp only [List.headD_cons, List.tail_cons, Int.ofNat_eq_natCast] at hp ⊢
        have e : (kk : Int) * (b.wr : Int) = ((kk * b.wr : Nat) : Int) := by simp
        rw [hp, e]
        have e2 : (((kk * b.wr : Nat) : Int) + (p : Int)).toNat = p + b.wr * kk := by rw [Nat.mul_comm kk]; omega
        rw [e2, atw, if_pos (by rw [Nat.mul_comm kk] at hm; omega)]
        have hpw : p < b.wr := by omega
        rw [Nat.add_mul_mod_self_left, Nat.mod_eq_of_lt hpw, Nat.add_mul_div_left _ _ (by omega), Nat.div_eq_of_lt hpw, Nat.zero_add]
        have := ihb _ _ ht hw
        rw [hp] at this
        simp only [Int.toNat_natCast, Int.ofNat_eq_natCast] at this
        rw [this]
        simp only
        congr 1
        omega
      · rw [if_neg h1] at h hw
        simp only [if_neg h1] at hbd hlt ⊢
        obtain ⟨i1, i2, i3⟩ := plc_bd r _ _ h
        rw [atw, if_neg (by omega), show (((b.wr * op.v.toNat : Nat) : Int) + r.plc (j - b.size - 2) rs).toNat - b.wr * op.v.toNat = (r.plc (j - b.size - 2) rs).toNat by omega, ihr _ _ h hw]
        simp only
        congr 1
        omega
end Fo
end Go.Proofs.YtmmepffdjmpblaaGreat
