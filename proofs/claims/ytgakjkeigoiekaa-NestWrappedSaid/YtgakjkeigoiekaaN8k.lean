/- Chapter 8: the walks of the laws NestMatches, NestTells, NestParts. -/
import Derived.Test.YtgakjkeigoiekaaN8j
namespace Go.Proofs.Ytgakjkeigoiekaa
set_option linter.unusedVariables false
set_option linter.unusedSimpArgs false
open Go.RowKit

theorem matchS_le (l : List OpD) : (matchS l).1.length ≤ l.length := by unfold matchS; split <;> simp [matchL_length]
theorem deepS_le (l : List OpD) (h : l.length ≤ 1000) : 0 ≤ (deepS l).1 ∧ (deepS l).1 ≤ 1000 := by
  unfold deepS
  split
  · have := deepAt_le l l.length
    unfold deepAt at this
    rw [List.take_length] at this
    unfold deepL
    simp
    omega
  · simp
theorem aroundS_le (l : List OpD) (i : Int) : (aroundS l i).1.length ≤ l.length := by
  unfold aroundS
  split
  · split
    · simp
    · simp only [arAt]
      split
      · split
        · rename_i x hx
          have h1 := stAt_length_le l i.toNat
          have h2 : (arnd (stAt l i.toNat) x).length ≤ (stAt l i.toNat).length := by unfold arnd; split <;> simp
          have h3 := (List.getElem?_eq_some_iff.1 hx).1
          omega
        · simp
      · simp
  · simp
theorem insideS_le (l : List OpD) (i : Int) : (insideS l i).1.length ≤ l.length := by
  unfold insideS
  split
  · split
    · split
      · split
        · simp; omega
        · simp
      · simp
    · simp
  · simp
theorem partsS_le (l : List OpD) : (partsS l).1.length ≤ l.length := by
  unfold partsS
  split
  · have := rpAt_length l l.length
    exact this
  · simp

theorem MatchR (a : Option Addr) (c : Nat) (l : List OpD) (w : World) (R : List Int × Int) (hR : matchS l = R) (h : At w a l) (hl : l.length ≤ 1000000) :
    Calls Try.prog 24 #[.slice a l.length c] w fun e w' => ∃ a' c', e = .returned (.tuple #[.slice a' R.1.length c', .int .i64 R.2]) ∧ Own w' w.heap.size 3 a' c' R.1 ∧ Below w.heap.size w w' := by
  subst hR; exact Match_calls a c l w h hl
theorem Match8R (a : Option Addr) (c : Nat) (l : List OpD) (w : World) (R : List Int × Int) (hR : matchS l = R) (h : At w a l) (hl : l.length ≤ 1000000) :
    Calls Try.prog 25 #[.slice a l.length c] w fun e w' => ∃ a' c', e = .returned (.tuple #[.slice a' R.1.length c', .int .i64 R.2]) ∧ Own w' w.heap.size 3 a' c' R.1 ∧ Below w.heap.size w w' := by
  subst hR; exact Match8_calls a c l w h hl
theorem AroundR (a : Option Addr) (c : Nat) (l : List OpD) (i : Int) (w : World) (R : List Int × Int) (hR : aroundS l i = R) (h : At w a l) (hl : l.length ≤ 1000000) :
    Calls Try.prog 31 #[.slice a l.length c, .int .i64 i] w fun e w' => ∃ a' c', e = .returned (.tuple #[.slice a' R.1.length c', .int .i64 R.2]) ∧ Own w' w.heap.size 3 a' c' R.1 ∧ Below w.heap.size w w' := by
  subst hR; exact Around_calls a c l i w h hl
theorem Around8R (a : Option Addr) (c : Nat) (l : List OpD) (i : Int) (w : World) (R : List Int × Int) (hR : aroundS l i = R) (h : At w a l) (hl : l.length ≤ 1000000) (hi1 : -9223372036854775808 ≤ i) (hi2 : i ≤ 9223372036854775807) :
    Calls Try.prog 32 #[.slice a l.length c, .int .i64 i] w fun e w' => ∃ a' c', e = .returned (.tuple #[.slice a' R.1.length c', .int .i64 R.2]) ∧ Own w' w.heap.size 3 a' c' R.1 ∧ Below w.heap.size w w' := by
  subst hR; exact Around8_calls a c l i w h hl hi1 hi2
theorem InsideR (a : Option Addr) (c : Nat) (l : List OpD) (i : Int) (w : World) (R : List OpD × Int) (hR : insideS l i = R) (h : At w a l) (hc : l.length ≤ c) (hl : l.length ≤ 1000000) (hi1 : -9223372036854775808 ≤ i) (hi2 : i ≤ 9223372036854775807) :
    Calls Try.prog 33 #[.slice a l.length c, .int .i64 i] w fun e w' => ∃ a' c', e = .returned (.tuple #[.slice a' R.1.length c', .int .i64 R.2]) ∧ Own w' w.heap.size 67 a' c' R.1 ∧ Below w.heap.size w w' := by
  subst hR; exact Inside_calls a c l i w h hc hl hi1 hi2
theorem Inside8R (a : Option Addr) (c : Nat) (l : List OpD) (i : Int) (w : World) (R : List OpD × Int) (hR : insideS l i = R) (h : At w a l) (hl : l.length ≤ 1000000) (hi1 : -9223372036854775808 ≤ i) (hi2 : i ≤ 9223372036854775807) :
    Calls Try.prog 34 #[.slice a l.length c, .int .i64 i] w fun e w' => ∃ a' c', e = .returned (.tuple #[.slice a' R.1.length c', .int .i64 R.2]) ∧ Own w' w.heap.size 67 a' c' R.1 ∧ Below w.heap.size w w' := by
  subst hR; exact Inside8_calls a c l i w h hl hi1 hi2
theorem PartsR (a : Option Addr) (c : Nat) (l : List OpD) (w : World) (R : List (Int × Int) × Int) (hR : partsS l = R) (h : At w a l) (hl : l.length ≤ 1000000) :
    Calls Try.prog 29 #[.slice a l.length c] w fun e w' => ∃ a' c', e = .returned (.tuple #[.slice a' R.1.length c', .int .i64 R.2]) ∧ Own w' w.heap.size 57 a' c' R.1 ∧ Below w.heap.size w w' := by
  subst hR; exact Parts_calls a c l w h hl
theorem Parts8R (a : Option Addr) (c : Nat) (l : List OpD) (w : World) (R : List (Int × Int) × Int) (hR : partsS l = R) (h : At w a l) (hl : l.length ≤ 1000000) :
    Calls Try.prog 30 #[.slice a l.length c] w fun e w' => ∃ a' c', e = .returned (.tuple #[.slice a' R.1.length c', .int .i64 R.2]) ∧ Own w' w.heap.size 57 a' c' R.1 ∧ Below w.heap.size w w' := by
  subst hR; exact Parts8_calls a c l w h hl

set_option maxRecDepth 100000 in
set_option maxHeartbeats 1600000 in
theorem NestMatches_calls (a : Option Addr) (c : Nat) (l : List OpD) (w : World) (h : At w a l) :
    Calls Try.prog 5 #[.slice a l.length c] w fun e w' => e = .returned (.bool true) ∧ Below w.heap.size w w' := by
  by_cases hl : l.length ≤ 200
  · obtain ⟨R, hR⟩ : ∃ R, matchS l = R := ⟨_, rfl⟩
    obtain ⟨D, hD⟩ : ∃ D, deepS l = D := ⟨_, rfl⟩
    have hRl := matchS_le l
    have hDl := deepS_le l (by omega)
    rw [hR] at hRl
    rw [hD] at hDl
    obtain ⟨hD0, hD1⟩ := hDl
    have HR := hide hR
    have HD := hide hD
    clear hR hD
    go_enter Try.func5, Try.ntmps5
    go_wp2_with (first
      | (go_at_call 24; (with_reducible refine (MatchR a c l _ R HR.out h (by omega)).mono ?_); rintro e w1 ⟨a1, c1, rfl, hown1, hbel1⟩; have hz1 := hbel1.size; have h1 := h.belowN hbel1)
      | (go_at_call 25; (with_reducible refine (Match8R a c l _ R HR.out h1 (by omega)).mono ?_); rintro e w2 ⟨a2, c2, rfl, hown2, hbel2⟩; have hB2 := hbel1.trans (hbel2.mono hz1); have hz2 := hB2.size; have h2 := h1.belowN hbel2; have hm2 := hown1.belowN hbel2)
      | (go_at_call 26; (with_reducible refine (Deep_calls a c l _ h2 (by omega)).mono ?_); rw [HD.out]; rintro e w3 ⟨rfl, hbel3⟩; have hB3 := hB2.trans (hbel3.mono hz2); have hz3 := hB3.size; have h3 := h2.belowN hbel3; have hm3 := (hm2.belowN hbel3).at_; have hn3 := (hown2.belowN hbel3).at_)
      | (go_at_call 27; (with_reducible refine (Deep8_calls a c l _ h3 (by omega)).mono ?_); rw [HD.out]; rintro e w4 ⟨rfl, rfl⟩)
      | (go_at_call 28; (with_reducible refine (Ints7_calls _ _ _ _ R.1 _ hm3 hn3 (by omega)).mono ?_); rintro e w5 ⟨rfl, q5, rfl⟩)
      | (go_at_call 23; (with_reducible refine (goes8_calls _).mono ?_); rintro e w8 ⟨rfl, hbel8⟩))
    go_ret
    exact ⟨rfl, (below_drewN hB3 _).trans (hbel8.mono (by simp; omega))⟩
  · go_enter Try.func5, Try.ntmps5
    go_wp2_with (go_at_call 23; (with_reducible refine (goes8_calls _).mono ?_); rintro e w8 ⟨rfl, hbel8⟩)
    go_ret
    exact ⟨rfl, hbel8⟩

set_option maxRecDepth 100000 in
set_option maxHeartbeats 1600000 in
theorem NestTells_calls (a : Option Addr) (c : Nat) (l : List OpD) (i : Int) (w : World) (h : At w a l) (hc : l.length ≤ c) (hi1 : -9223372036854775808 ≤ i) (hi2 : i ≤ 9223372036854775807) :
    Calls Try.prog 8 #[.slice a l.length c, .int .i64 i] w fun e w' => e = .returned (.bool true) ∧ Below w.heap.size w w' := by
  by_cases hl : l.length ≤ 200
  · obtain ⟨R, hR⟩ : ∃ R, aroundS l i = R := ⟨_, rfl⟩
    obtain ⟨D, hD⟩ : ∃ D, insideS l i = D := ⟨_, rfl⟩
    have hRl := aroundS_le l i
    have hDl := insideS_le l i
    rw [hR] at hRl
    rw [hD] at hDl
    have HR := hide hR
    have HD := hide hD
    clear hR hD
    go_enter Try.func8, Try.ntmps8
    go_wp2_with (first
      | (go_at_call 31; (with_reducible refine (AroundR a c l i _ R HR.out h (by omega)).mono ?_); rintro e w1 ⟨a1, c1, rfl, hown1, hbel1⟩; have hz1 := hbel1.size; have h1 := h.belowN hbel1)
      | (go_at_call 32; (with_reducible refine (Around8R a c l i _ R HR.out h1 (by omega) hi1 hi2).mono ?_); rintro e w2 ⟨a2, c2, rfl, hown2, hbel2⟩; have hB2 := hbel1.trans (hbel2.mono hz1); have hz2 := hB2.size; have h2 := h1.belowN hbel2; have hm2 := hown1.belowN hbel2)
      | (go_at_call 33; (with_reducible refine (InsideR a c l i _ D HD.out h2 hc (by omega) hi1 hi2).mono ?_); rintro e w3 ⟨a3, c3, rfl, hown3, hbel3⟩; have hB3 := hB2.trans (hbel3.mono hz2); have hz3 := hB3.size; have h3 := h2.belowN hbel3; have hm3 := hm2.belowN hbel3; have hn3 := hown2.belowN hbel3)
      | (go_at_call 34; (with_reducible refine (Inside8R a c l i _ D HD.out h3 (by omega) hi1 hi2).mono ?_); rintro e w4 ⟨a4, c4, rfl, hown4, hbel4⟩; have hB4 := hB3.trans (hbel4.mono hz3); have hz4 := hB4.size; have hm4 := (hm3.belowN hbel4).at_; have hn4 := (hn3.belowN hbel4).at_; have ho4 := (hown3.belowN hbel4).at_; have hp4 := hown4.at_)
      | (go_at_call 28; (with_reducible refine (Ints7_calls _ _ _ _ R.1 _ hm4 hn4 (by omega)).mono ?_); rintro e w5 ⟨rfl, q5, rfl⟩)
      | (go_at_call 35; (with_reducible refine (Ops8_calls _ _ _ _ D.1 _ (ho4.drewN _) (hp4.drewN _) (by omega)).mono ?_); rintro e w6 ⟨rfl, q6, rfl⟩)
      | (go_at_call 23; (with_reducible refine (goes8_calls _).mono ?_); rintro e w8 ⟨rfl, hbel8⟩))
    go_ret
    exact ⟨rfl, (below_drewN hB4 _).trans (hbel8.mono (by simp; omega))⟩
  · go_enter Try.func8, Try.ntmps8
    go_wp2_with (go_at_call 23; (with_reducible refine (goes8_calls _).mono ?_); rintro e w8 ⟨rfl, hbel8⟩)
    go_ret
    exact ⟨rfl, hbel8⟩
end Go.Proofs.Ytgakjkeigoiekaa
