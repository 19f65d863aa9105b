/- Chapter 8: the walk of the law NestParts; plain facts on lists that are joined or put into a block. -/
import Derived.Test.YtgakjkeigoiekaaN8k
namespace Go.Proofs.Ytgakjkeigoiekaa
set_option linter.unusedVariables false
set_option linter.unusedSimpArgs false
open Go.RowKit

set_option maxRecDepth 100000 in
set_option maxHeartbeats 1600000 in
theorem NestParts_calls (a : Option Addr) (c : Nat) (l : List OpD) (w : World) (h : At w a l) :
    Calls Try.prog 6 #[.slice a l.length c] w fun e w' => e = .returned (.bool true) ∧ Below w.heap.size w w' := by
  by_cases hl : l.length ≤ 200
  · obtain ⟨R, hR⟩ : ∃ R, partsS l = R := ⟨_, rfl⟩
    have hRl := partsS_le l
    rw [hR] at hRl
    have HR := hide hR
    clear hR
    have hneq := run_neqP
    go_enter Try.func6, Try.ntmps6
    go_wp2_with (first
      | (go_at_call 29; (with_reducible refine (PartsR a c l _ R HR.out h (by omega)).mono ?_); rintro e w1 ⟨a1, c1, rfl, hown1, hbel1⟩; have hz1 := hbel1.size; have h1 := h.belowN hbel1)
      | (go_at_call 30; (with_reducible refine (Parts8R a c l _ R HR.out h1 (by omega)).mono ?_); rintro e w2 ⟨a2, c2, rfl, hown2, hbel2⟩; have hB2 := hbel1.trans (hbel2.mono hz1); have hz2 := hB2.size; have hm2 := (hown1.belowN hbel2).at_; have hn2 := hown2.at_))
    go_loopw [7] (fun i wr => ∃ k : Nat, k ≤ R.1.length ∧ i = .int .i64 k ∧ ∃ q, wr = w2.drewN q) (fun i _ => R.1.length - (intOf i).toNat)
    case atStart => exact ⟨0, by omega, rfl, ⟨0, rfl⟩⟩
    case round =>
      obtain ⟨k, hk, rfl, q, rfl⟩ := hrel
      by_cases hlt : k < R.1.length
      · obtain ⟨b1, off1, x, rfl, hx, x0, x1⟩ := hm2.getP (Below.refl _ _) hlt
        obtain ⟨b2, off2, y, rfl, hy, y0, y1⟩ := hn2.getP (Below.refl _ _) hlt
        obtain rfl : x = y := by have := hx.out.symm.trans hy.out; simpa using this
        go_wp2
        go_quiet (fail)
        go_wp2
        go_roundw
        case rel => exact ⟨k + 1, by omega, by go_num, ⟨_, rfl⟩⟩
        case measure => simp [intOf]; omega
      · go_wp2_with (go_at_call 23; (with_reducible refine (goes8_calls _).mono ?_); rintro e w8 ⟨rfl, hbel8⟩)
        go_ret
        exact ⟨rfl, (below_drewN hB2 _).trans (hbel8.mono (by simp; omega))⟩
  · go_enter Try.func6, Try.ntmps6
    go_wp2_with (go_at_call 23; (with_reducible refine (goes8_calls _).mono ?_); rintro e w8 ⟨rfl, hbel8⟩)
    go_ret
    exact ⟨rfl, hbel8⟩

/-- a literal slice -/
theorem Own.lit {α : Type} [Flat α] {B : Nat} (w : World) (hB : B ≤ w.heap.size) (E : TypeId) (cs : Array Value) (l : List α) (hcs : cs.toList = l.flatMap Flat.enc) (hl : l.length ≤ 1000000000) : Own (w.alloc (.cells cs E)) B E (some ⟨w.heap.size, 0, .none⟩) l.length l := by
  unfold Own
  rw [← hcs]
  refine World.ownsRow_lit w cs l.length hB (by unfold maxLen; omega) ?_
  rw [← Array.length_toList, hcs, enc_length]

theorem Fo.size_app (f g : Fo) : (f.app g).size = f.size + g.size := by simp [Fo.size, Fo.flat_app]
theorem partsT_app (f g : Fo) (o : Nat) : partsT o (f.app g) = partsT o f ++ partsT (o + f.size) g := by
  induction f generalizing o with
  | nil => simp [Fo.app, partsT, Fo.size, Fo.flat]
  | leaf op r ih => simp only [Fo.app, partsT, List.cons_append, ih, Fo.size_leaf, show o + 1 + r.size = o + (r.size + 1) by omega]
  | rep op b fin r _ ih => simp only [Fo.app, partsT, List.cons_append, ih, Fo.size_rep, show o + b.size + 2 + r.size = o + (b.size + r.size + 2) by omega]
theorem partsT_shift (g : Fo) (o n : Nat) : partsT (o + n) g = (partsT o g).map (fun p => (p.1 + (n : Int), p.2 + (n : Int))) := by
  induction g generalizing o with
  | nil => rfl
  | leaf op r ih =>
    have := ih (o + 1)
    rw [show o + 1 + n = o + n + 1 by omega] at this
    simp only [partsT, List.map_cons, this]
    congr 2
    omega
  | rep op b fin r _ ih =>
    have := ih (o + b.size + 2)
    rw [show o + b.size + 2 + n = o + n + b.size + 2 by omega] at this
    simp only [partsT, List.map_cons, this]
    congr 2
    omega
theorem well_join (l m : List OpD) (hl : well l = true) (hm : well m = true) : well (l ++ m) = true := by
  obtain ⟨f, hf, rfl⟩ := forest_of_well l hl
  obtain ⟨g, hg, rfl⟩ := forest_of_well m hm
  rw [← Fo.flat_app]
  exact well_of_flat _ (Fo.ok_app hf hg)
theorem parts_join (l m : List OpD) (hl : well l = true) (hm : well m = true) : partsL (l ++ m) = partsL l ++ (partsL m).map (fun p => (p.1 + (l.length : Int), p.2 + (l.length : Int))) := by
  obtain ⟨f, hf, rfl⟩ := forest_of_well l hl
  obtain ⟨g, hg, rfl⟩ := forest_of_well m hm
  rw [← Fo.flat_app, partsL_flat _ (Fo.ok_app hf hg), partsL_flat f hf, partsL_flat g hg, partsT_app, partsT_shift]
  rfl
theorem dpF_max (n m m' : Nat) (l : List OpD) : dpF n (max m m') l = max m (dpF n m' l) := by
  induction l generalizing n m' with
  | nil => rfl
  | cons x r ih =>
    simp only [dpF]
    split
    · rw [← ih]; congr 1; omega
    · split
      · exact ih _ _
      · exact ih _ _
theorem htF_flat (f : Fo) (hf : f.ok) (n : Nat) : htF n f.flat = n := by
  have h := stF_ht 0 (List.replicate n 0) f.flat
  rw [stF_flat f hf] at h
  simpa using h.symm
theorem deep_join (l m : List OpD) (hl : well l = true) (hm : well m = true) : deepL (l ++ m) = max (deepL l) (deepL m) := by
  obtain ⟨f, hf, rfl⟩ := forest_of_well l hl
  unfold deepL
  rw [dpF_append, htF_flat f hf, ← dpF_max]
  simp
theorem dpF_shift (n m : Nat) (l : List OpD) (h : wellF n l = true) : dpF (n + 1) (m + 1) l = dpF n m l + 1 := by
  induction l generalizing n m with
  | nil => rfl
  | cons x r ih =>
    rw [wellF] at h
    simp only [dpF]
    by_cases h1 : x.kind < 0 ∨ 7 < x.kind
    · rw [if_pos h1] at h; cases h
    · rw [if_neg h1] at h
      by_cases h7 : x.kind = 7
      · rw [if_pos h7] at h
        rw [if_pos h7, if_pos h7, ← ih _ _ h]
        congr 1
        omega
      · rw [if_neg h7] at h
        rw [if_neg h7, if_neg h7]
        by_cases h0 : x.kind = 0
        · rw [if_pos h0] at h
          by_cases hn : n = 0
          · rw [if_pos hn] at h; cases h
          · rw [if_neg hn] at h
            rw [if_pos h0, if_pos h0, ← ih _ _ h]
            congr 1
            omega
        · rw [if_neg h0] at h
          rw [if_neg h0, if_neg h0, ih _ _ h]

/-- put into a block -/
def wrapped (v : UInt64) (l : List OpD) : List OpD := [⟨7, 0, 0, 0, v⟩] ++ l ++ [⟨0, 0, 0, 0, 0⟩]
theorem well_wrapped (v : UInt64) (l : List OpD) (hl : well l = true) : well (wrapped v l) = true := by
  obtain ⟨f, hf, rfl⟩ := forest_of_well l hl
  have := well_of_flat (.rep ⟨7, 0, 0, 0, v⟩ f ⟨0, 0, 0, 0, 0⟩ .nil) ⟨rfl, hf, rfl, trivial⟩
  simpa [Fo.flat, wrapped] using this
theorem mtT_shift (f : Fo) (o : Nat) : mtT (o + 1) f = (mtT o f).map (fun m => if m < 0 then m else m + 1) := by
  induction f generalizing o with
  | nil => rfl
  | leaf op r ih => simp only [mtT, List.map_cons, ih (o + 1)]; rfl
  | rep op b fin r ihb ihr =>
    have h1 := ihb (o + 1)
    have h2 := ihr (o + b.size + 2)
    rw [show o + b.size + 2 + 1 = o + 1 + b.size + 2 by omega] at h2
    simp only [mtT, List.map_cons, List.map_append, h1, h2]
    rw [if_neg (by omega), if_neg (by omega)]
    congr 1
    omega
theorem match_wrapped (v : UInt64) (l : List OpD) (hl : well l = true) : matchL (wrapped v l) = ((l.length + 1 : Nat) : Int) :: ((matchL l).map (fun m => if m < 0 then m else m + 1) ++ [0]) := by
  obtain ⟨f, hf, rfl⟩ := forest_of_well l hl
  have h := matchL_flat (.rep ⟨7, 0, 0, 0, v⟩ f ⟨0, 0, 0, 0, 0⟩ .nil) ⟨rfl, hf, rfl, trivial⟩
  have e : (Fo.rep ⟨7, 0, 0, 0, v⟩ f ⟨0, 0, 0, 0, 0⟩ .nil).flat = wrapped v f.flat := by simp [Fo.flat, wrapped]
  rw [← e, h, matchL_flat f hf, ← mtT_shift]
  simp [mtT, Fo.size]
theorem deep_wrapped (v : UInt64) (l : List OpD) (hl : well l = true) : deepL (wrapped v l) = deepL l + 1 := by
  have hs := dpF_shift 0 0 l hl
  obtain ⟨f, hf, rfl⟩ := forest_of_well l hl
  unfold deepL wrapped
  rw [List.append_assoc]
  show dpF 1 (max 0 1) (f.flat ++ [⟨0, 0, 0, 0, 0⟩]) = _
  rw [dpF_append, htF_flat f hf]
  exact hs
theorem inside_wrapped (v : UInt64) (l : List OpD) (hl : well l = true) : insideS (wrapped v l) 0 = (l, 0) := by
  have h1 := match_wrapped v l hl
  unfold insideS
  rw [if_pos (well_wrapped v l hl), if_pos ⟨by omega, by simp [wrapped]; omega⟩]
  have e0 : (wrapped v l)[(0 : Int).toNat]? = some ⟨7, 0, 0, 0, v⟩ := rfl
  rw [h1, e0]
  simp [wrapped]
end Go.Proofs.Ytgakjkeigoiekaa
