/- Chapter 8: Around. -/
import Derived.Test.YtgakjkeigoiekaaN8d
namespace Go.Proofs.Ytgakjkeigoiekaa
set_option linter.unusedVariables false
set_option linter.unusedSimpArgs false
open Go.RowKit

/-- the blocks around operation `i`, once `k` operations are behind -/
def arAt (l : List OpD) (i : Int) (k : Nat) : List Int := if 0 ≤ i ∧ i < k then (match l[i.toNat]? with | some x => arnd (stAt l i.toNat) x | none => []) else []
def aroundS (l : List OpD) (i : Int) : List Int × Int := if well l = true then (if i < 0 ∨ (l.length : Int) ≤ i then ([], 2) else (arAt l i l.length, 0)) else ([], 6)
theorem arAt_zero (l : List OpD) (i : Int) : arAt l i 0 = [] := by unfold arAt; rw [if_neg (by omega)]
theorem arAt_other (l : List OpD) (i : Int) (k : Nat) (h : i ≠ k) : arAt l i (k + 1) = arAt l i k := by
  unfold arAt
  by_cases hh : 0 ≤ i ∧ i < k
  · rw [if_pos hh, if_pos ⟨hh.1, by omega⟩]
  · rw [if_neg hh, if_neg (by omega)]
theorem arAt_this (l : List OpD) (k : Nat) (x : OpD) (h : l[k]? = some x) : arAt l (k : Int) (k + 1) = arnd (stAt l k) x := by
  unfold arAt
  rw [if_pos ⟨by omega, by omega⟩]
  simp [h]

section
variable {B bi bo : Nat} {l : List OpD} {i : Int}
def JA (B bi bo : Nat) (l : List OpD) (i : Int) (k : Nat) (F : List Nat) (w : World) : Prop :=
  ∃ ao co, F = bi :: bo :: (ao.map (·.block)).toList ∧ Blk w bi 3 #[.int .i64 i] ∧ Blk w bo 41 #[.slice ao (arAt l i k).length co] ∧ Own w B 3 ao co (arAt l i k)
theorem JA.keep {k : Nat} {F : List Nat} {w w' : World} (h : JA B bi bo l i k F w) (hb : ∀ b ∈ F, w'.heap[b]? = w.heap[b]?) : JA B bi bo l i k F w' := by
  obtain ⟨ao, co, rfl, h1, h2, h3⟩ := h
  exact ⟨ao, co, rfl, (hb bi (by simp)).trans h1, (hb bo (by simp)).trans h2, h3.keep (fun k hk _ => hb k (by simp [hk]))⟩
theorem JA.lt {k : Nat} {F : List Nat} {w : World} (h : JA B bi bo l i k F w) : ∀ b ∈ F, b < w.heap.size := by
  obtain ⟨ao, co, rfl, h1, h2, h3⟩ := h
  intro b hb
  simp at hb
  rcases hb with rfl | rfl | hb
  · exact h1.lt
  · exact h2.lt
  · exact (h3.blk b (by simpa using hb)).2

set_option maxHeartbeats 800000 in
theorem JA.call {w' : World} {F : List Nat} {k : Nat} {x : OpD} {b : Option Addr} {n d : Nat} (hx : l[k]? = some x) (hJ : JA B bi bo l i k F w') (hat : At w' b (arnd (stAt l k) x)) (hn : n = (arnd (stAt l k) x).length) (hl : l.length ≤ 1000000) (hB : B ≤ w'.heap.size) :
    Calls Try.prog 52 #[.int .i64 k, .slice b n d, .pointer (some ⟨bi, 0, none⟩), .pointer (some ⟨bo, 0, none⟩)] w' (CloPost (JA B bi bo l i) k F w') := by
  have hJ0 := hide hJ
  obtain ⟨ao, co, rfl, h1, h2, h3⟩ := hJ
  have hkl : k < l.length := (List.getElem?_eq_some_iff.1 hx).1
  have hne : bi ≠ bo := by rintro rfl; unfold Blk at h1 h2; rw [h1] at h2; injection h2 with h2; injection h2 with _ h2; cases h2
  obtain ⟨p0, p1⟩ := h1.c1
  obtain ⟨q0, q1⟩ := h2.c1
  have hz := h2.lt
  have hsl := stAt_length_le l k
  have hal : (arnd (stAt l k) x).length ≤ (stAt l k).length := by unfold arnd; split <;> simp
  by_cases hk : (k : Int) = i
  · have hs : arAt l i (k + 1) = arnd (stAt l k) x := by rw [← hk]; exact arAt_this l k x hx
    have HS := hide hs
    have hkk : ((k : Int) == i) = true := by simpa using hk
    have HN := hide hn
    have hnl : n ≤ 1000000000 := by omega
    clear hs hk hx hn hal
    go_enter Try.func52, Try.ntmps52
    go_wp2_with (go_at_call 53; (with_reducible refine (CloneI_calls _ _ _ (arnd (stAt l k) x) _ HN.out hat hnl).mono ?_); rintro e w2 ⟨a', c', rfl, hown2, hbel2⟩; have hb2 := h2.belowN hbel2; obtain ⟨r0, r1⟩ := hb2.c1; have hz2 := hbel2.size)
    go_end0
    unfold CloPost
    have ha' := hown2.blk
    have e1 : ∀ g, a'.map (·.block) = some g → w'.heap.size ≤ g := fun g hg => (ha' g hg).1
    refine ⟨rfl, _, ⟨a', c', rfl, (h1.belowN hbel2).far (p := ⟨bo, 0, none⟩) hne _, ?_, ?_⟩, ?_, ?_⟩
    · rw [HS.out, ← HN.out]; exact hb2.set_ 0 _
    · rw [HS.out]; exact (hown2.mono hB).far (p := ⟨bo, 0, none⟩) (fun e => by have := e1 _ e; simp at this; omega) _
    · refine (Turned.ofBelow hbel2).trans (F' := [bo]) (Turned.ofGrown (grown_setCell _ bo 0 _) (fun g hg => .inl (by injection hg with hg; simp [hg]))) (fun g hg => .inl (by simp at hg; simp [hg]))
    · intro g hg
      simp at hg
      rcases hg with rfl | rfl | hg
      · exact .inl (by simp)
      · exact .inl (by simp)
      · exact .inr (e1 g (by simpa using hg))
  · have hs : arAt l i (k + 1) = arAt l i k := arAt_other l i k (by omega)
    have HS := hide hs
    have hkk : ((k : Int) == i) = false := by simpa using hk
    clear hs hk hx hn hal
    go_enter Try.func52, Try.ntmps52
    go_wp2
    go_end0
    unfold CloPost
    refine ⟨rfl, _, ⟨ao, co, rfl, h1, ?_, ?_⟩, Turned.refl _ _, fun g hg => .inl hg⟩
    · rw [HS.out]; exact h2
    · rw [HS.out]; exact h3
end

def AroundPost (w : World) (l : List OpD) (i : Int) (e : Ending) (w' : World) : Prop :=
  ∃ a c, e = .returned (.tuple #[.slice a (aroundS l i).1.length c, .int .i64 (aroundS l i).2]) ∧ Own w' w.heap.size 3 a c (aroundS l i).1 ∧ Below w.heap.size w w'


set_option maxHeartbeats 1600000 in
theorem Around_calls (a : Option Addr) (c : Nat) (l : List OpD) (i : Int) (w : World) (h : At w a l) (hl : l.length ≤ 1000000) :
    Calls Try.prog 31 #[.slice a l.length c, .int .i64 i] w (AroundPost w l i) := by
  have haw : l ≠ [] → ∀ g, a.map (·.block) = some g → g < w.heap.size := by
    intro h0 g hg
    obtain ⟨b, off, rfl, hlt⟩ := h.lt h0
    simp at hg
    omega
  have HAW := hide haw
  obtain ⟨Wl, hWl⟩ : ∃ b, b = well l := ⟨_, rfl⟩
  have HWL := hide hWl
  clear haw hWl
  have hcase : Wl = true ∨ Wl = false := by cases Wl <;> simp
  have hBa : Below w.heap.size w ((w.alloc (.cells #[.int .i64 i] 3)).alloc (.cells #[.slice none 0 0] 41)) := Below.alloc (Below.alloc (Below.refl _ _) (Nat.le_refl _) _) (by simp) _
  rcases hcase with rfl | rfl
  rotate_left
  · skip
    go_enter Try.func31, Try.ntmps31
    go_wp2_with (go_at_call 47; (refine (walkA_calls _ _ a c l _ (h.belowN hBa) hl (JA w.heap.size w.heap.size (w.heap.size + 1) l i) [w.heap.size, w.heap.size + 1] (fun k F w w' hJ _ hb => hJ.keep hb) (fun k F w hJ => hJ.lt) ?_ ?_ ?_).mono ?_); rotate_right; rintro e w3 ⟨rfl, hT3, hW3⟩; rw [← HWL.out]; have hz3 := hT3.size; clear hW3)
    · go_ret2
      have hB3 : Below w.heap.size w w3 := hT3.below hBa (fun g hg => by simp at hg; omega) (by simp; omega)
      unfold AroundPost
      exact ⟨none, 0, by simp [aroundS, ← HWL.out], by simpa [aroundS, ← HWL.out] using Own.none _ _ _, hB3⟩
    · intro k x F w' b n d hx h0 h7 hk0 hJ hat hn hT
      refine (JA.call hx hJ hat hn hl (by have := hT.size; simp at this; omega)).mono ?_
      rintro e w2 h2
      unfold CloPost at h2
      exact h2
    · exact ⟨none, 0, rfl, (Blk.new w _ _).alloc _, by simpa [arAt_zero] using Blk.new (w.alloc (.cells #[.int .i64 i] 3)) 41 #[.slice none 0 0], by rw [arAt_zero]; exact Own.none _ _ _⟩
    · intro h0
      first
      | (intro g hg e; have := HAW.out h0 g e; simp at hg; omega)
      | (constructor
         all_goals
           intro x hx e
           have := HAW.out h0 x.block (by simp [hx])
           omega)
  have h3 : i < 0 ∨ (0 ≤ i ∧ (l.length : Int) ≤ i) ∨ (0 ≤ i ∧ i < l.length) := by omega
  rcases h3 with hi0 | ⟨hi0, hi5⟩ | ⟨hi0, hi5⟩
  · have hi1 : Hid (i < 0 ∨ (l.length : Int) ≤ i) := hide (.inl hi0)
    go_enter Try.func31, Try.ntmps31
    go_wp2_with (go_at_call 47; (refine (walkA_calls _ _ a c l _ (h.belowN hBa) hl (JA w.heap.size w.heap.size (w.heap.size + 1) l i) [w.heap.size, w.heap.size + 1] (fun k F w w' hJ _ hb => hJ.keep hb) (fun k F w hJ => hJ.lt) ?_ ?_ ?_).mono ?_); rotate_right; rintro e w3 ⟨rfl, hT3, hW3⟩; rw [← HWL.out]; have hz3 := hT3.size; obtain ⟨F', ⟨ao, co, hFF, h1, h2, h3⟩, _⟩ := hW3 HWL.out.symm; obtain ⟨q0, q1⟩ := h1.c1; obtain ⟨s0, s1⟩ := h2.c1; have HFF := hide hFF; clear hFF hW3)
    · go_ret2
      have hB3 : Below w.heap.size w w3 := hT3.below hBa (fun g hg => by simp at hg; omega) (by simp; omega)
      unfold AroundPost
      exact ⟨none, 0, by simp [aroundS, ← HWL.out, hi1.out], by simpa [aroundS, ← HWL.out, hi1.out] using Own.none _ _ _, hB3⟩
    · intro k x F w' b n d hx h0 h7 hk0 hJ hat hn hT
      refine (JA.call hx hJ hat hn hl (by have := hT.size; simp at this; omega)).mono ?_
      rintro e w2 h2
      unfold CloPost at h2
      exact h2
    · exact ⟨none, 0, rfl, (Blk.new w _ _).alloc _, by simpa [arAt_zero] using Blk.new (w.alloc (.cells #[.int .i64 i] 3)) 41 #[.slice none 0 0], by rw [arAt_zero]; exact Own.none _ _ _⟩
    · intro h0
      first
      | (intro g hg e; have := HAW.out h0 g e; simp at hg; omega)
      | (constructor
         all_goals
           intro x hx e
           have := HAW.out h0 x.block (by simp [hx])
           omega)
  · have hi1 : Hid (i < 0 ∨ (l.length : Int) ≤ i) := hide (.inr hi5)
    go_enter Try.func31, Try.ntmps31
    go_wp2_with (go_at_call 47; (refine (walkA_calls _ _ a c l _ (h.belowN hBa) hl (JA w.heap.size w.heap.size (w.heap.size + 1) l i) [w.heap.size, w.heap.size + 1] (fun k F w w' hJ _ hb => hJ.keep hb) (fun k F w hJ => hJ.lt) ?_ ?_ ?_).mono ?_); rotate_right; rintro e w3 ⟨rfl, hT3, hW3⟩; rw [← HWL.out]; have hz3 := hT3.size; obtain ⟨F', ⟨ao, co, hFF, h1, h2, h3⟩, _⟩ := hW3 HWL.out.symm; obtain ⟨q0, q1⟩ := h1.c1; obtain ⟨s0, s1⟩ := h2.c1; have HFF := hide hFF; clear hFF hW3)
    · go_ret2
      have hB3 : Below w.heap.size w w3 := hT3.below hBa (fun g hg => by simp at hg; omega) (by simp; omega)
      unfold AroundPost
      exact ⟨none, 0, by simp [aroundS, ← HWL.out, hi1.out], by simpa [aroundS, ← HWL.out, hi1.out] using Own.none _ _ _, hB3⟩
    · intro k x F w' b n d hx h0 h7 hk0 hJ hat hn hT
      refine (JA.call hx hJ hat hn hl (by have := hT.size; simp at this; omega)).mono ?_
      rintro e w2 h2
      unfold CloPost at h2
      exact h2
    · exact ⟨none, 0, rfl, (Blk.new w _ _).alloc _, by simpa [arAt_zero] using Blk.new (w.alloc (.cells #[.int .i64 i] 3)) 41 #[.slice none 0 0], by rw [arAt_zero]; exact Own.none _ _ _⟩
    · intro h0
      first
      | (intro g hg e; have := HAW.out h0 g e; simp at hg; omega)
      | (constructor
         all_goals
           intro x hx e
           have := HAW.out h0 x.block (by simp [hx])
           omega)
  · have hi1 : Hid (¬(i < 0 ∨ (l.length : Int) ≤ i)) := hide (by omega)
    go_enter Try.func31, Try.ntmps31
    go_wp2_with (go_at_call 47; (refine (walkA_calls _ _ a c l _ (h.belowN hBa) hl (JA w.heap.size w.heap.size (w.heap.size + 1) l i) [w.heap.size, w.heap.size + 1] (fun k F w w' hJ _ hb => hJ.keep hb) (fun k F w hJ => hJ.lt) ?_ ?_ ?_).mono ?_); rotate_right; rintro e w3 ⟨rfl, hT3, hW3⟩; rw [← HWL.out]; have hz3 := hT3.size; obtain ⟨F', ⟨ao, co, hFF, h1, h2, h3⟩, _⟩ := hW3 HWL.out.symm; obtain ⟨q0, q1⟩ := h1.c1; obtain ⟨s0, s1⟩ := h2.c1; have HFF := hide hFF; clear hFF hW3)
    · go_ret2
      have hB3 : Below w.heap.size w w3 := hT3.below hBa (fun g hg => by simp at hg; omega) (by simp; omega)
      unfold AroundPost
      exact ⟨ao, co, by simp [aroundS, ← HWL.out, hi1.out], by simpa [aroundS, ← HWL.out, hi1.out] using h3, hB3⟩
    · intro k x F w' b n d hx h0 h7 hk0 hJ hat hn hT
      refine (JA.call hx hJ hat hn hl (by have := hT.size; simp at this; omega)).mono ?_
      rintro e w2 h2
      unfold CloPost at h2
      exact h2
    · exact ⟨none, 0, rfl, (Blk.new w _ _).alloc _, by simpa [arAt_zero] using Blk.new (w.alloc (.cells #[.int .i64 i] 3)) 41 #[.slice none 0 0], by rw [arAt_zero]; exact Own.none _ _ _⟩
    · intro h0
      first
      | (intro g hg e; have := HAW.out h0 g e; simp at hg; omega)
      | (constructor
         all_goals
           intro x hx e
           have := HAW.out h0 x.block (by simp [hx])
           omega)
end Go.Proofs.Ytgakjkeigoiekaa
