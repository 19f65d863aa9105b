/- Chapter 14: JetDerives. -/
import Derived.Test.YthncfoompoheoaaW14a
namespace Go.Proofs.Ythncfoompoheoaa
set_option linter.unusedVariables false
set_option linter.unusedSimpArgs false
open Go.RowKit
noncomputable def small14 (regs : Int) (l : List OpD) (ops writes : Int) : Bool := decide ((l.length : Int) ≤ ops) && (decide (checkS regs l ≠ 0) || (decide (((unrS regs l).length : Int) ≤ writes) && decide (regs ≤ 12)))
theorem small14_le {regs : Int} {l : List OpD} {m n : Int} (h : small14 regs l m n = true) : (l.length : Int) ≤ m := by
  unfold small14 at h
  simp only [Bool.and_eq_true, decide_eq_true_eq] at h
  exact h.1
theorem small14_few {regs : Int} {l : List OpD} {m n : Int} (h : small14 regs l m n = true) (hn : 0 ≤ n) : ((unrS regs l).length : Int) ≤ n := by
  unfold small14 at h
  simp only [Bool.and_eq_true, Bool.or_eq_true, decide_eq_true_eq] at h
  rcases h.2 with h1 | h1
  · rw [unrS_bad h1]; simpa using hn
  · exact h1.1
set_option maxRecDepth 100000 in
set_option maxHeartbeats 3200000 in
theorem Small14_calls (regs : Int) (a : Option Addr) (c : Nat) (l : List OpD) (ops writes : Int) (B : Bool) (hB : small14 regs l ops writes = B) (w : World) (h : At w a l) (hl : l.length ≤ 1000000) (ho : 0 ≤ ops) (hw : 0 ≤ writes) :
    Calls Try.prog 33 #[.agg #[.int .i64 regs, .slice a l.length c], .int .i64 ops, .int .i64 writes] w fun e w' => e = .returned (.bool B) ∧ Below w.heap.size w w' := by
  have hb0 := below_new12 w (.cells #[.int .i64 regs, .slice a l.length c] 24)
  have hX := Blk.new w 24 #[.int .i64 regs, .slice a l.length c]
  have h1 := h.belowN hb0
  subst hB
  unfold small14
  obtain ⟨R, hR⟩ : ∃ R, unrS regs l = R := ⟨_, rfl⟩
  obtain ⟨E, hE⟩ : ∃ E, checkS regs l = E := ⟨_, rfl⟩
  rw [hR, hE]
  have HR := hide hR
  have HE := hide hE
  clear hR hE h
  by_cases g1 : (l.length : Int) ≤ ops
  · rw [decide_eq_true g1, Bool.true_and]
    by_cases g2 : E = 0
    · subst g2
      rw [show decide ((0 : Int) ≠ 0) = false from rfl, Bool.false_or]
      by_cases g3 : (R.length : Int) ≤ writes
      · rw [decide_eq_true g3, Bool.true_and]
        by_cases g4 : regs ≤ 12
        · rw [decide_eq_true g4]
          go_enter Try.func33, Try.ntmps33
          go_wp2_with (go_at_call 80; go_must ((with_reducible refine (UnrollR regs a c l _ R 0 HR.out HE.out h1 hl).mono ?_); rintro e w1 ⟨a1, c1, rfl, hown1, hC1⟩; obtain ⟨q0, q1, q2, q3⟩ := (hX.belowN hC1).c2))
          go_ret
          exact ⟨rfl, hb0.trans (hC1.mono hb0.size)⟩
        · rw [decide_eq_false g4]
          go_enter Try.func33, Try.ntmps33
          go_wp2_with (go_at_call 80; go_must ((with_reducible refine (UnrollR regs a c l _ R 0 HR.out HE.out h1 hl).mono ?_); rintro e w1 ⟨a1, c1, rfl, hown1, hC1⟩; obtain ⟨q0, q1, q2, q3⟩ := (hX.belowN hC1).c2))
          go_ret
          exact ⟨by first | rfl | simp [g4] | (simp; omega), hb0.trans (hC1.mono hb0.size)⟩
      · rw [decide_eq_false g3, Bool.false_and]
        go_enter Try.func33, Try.ntmps33
        go_wp2_with (go_at_call 80; go_must ((with_reducible refine (UnrollR regs a c l _ R 0 HR.out HE.out h1 hl).mono ?_); rintro e w1 ⟨a1, c1, rfl, hown1, hC1⟩; obtain ⟨q0, q1, q2, q3⟩ := (hX.belowN hC1).c2))
        go_ret
        exact ⟨rfl, hb0.trans (hC1.mono hb0.size)⟩
    · rw [decide_eq_true g2, Bool.true_or]
      have d1 : (E == 0) = false := by simpa using g2
      have d2 : (E != 0) = true := by simpa using g2
      clear g2
      go_enter Try.func33, Try.ntmps33
      go_wp2_with (go_at_call 80; go_must ((with_reducible refine (UnrollR regs a c l _ R E HR.out HE.out h1 hl).mono ?_); rintro e w1 ⟨a1, c1, rfl, hown1, hC1⟩; obtain ⟨q0, q1, q2, q3⟩ := (hX.belowN hC1).c2))
      go_ret
      exact ⟨rfl, hb0.trans (hC1.mono hb0.size)⟩
  · rw [decide_eq_false g1, Bool.false_and]
    go_enter Try.func33, Try.ntmps33
    go_wp2_with (go_at_call 80; go_must ((with_reducible refine (UnrollR regs a c l _ R E HR.out HE.out h1 hl).mono ?_); rintro e w1 ⟨a1, c1, rfl, hown1, hC1⟩; obtain ⟨q0, q1, q2, q3⟩ := (hX.belowN hC1).c2))
    go_ret
    exact ⟨rfl, hb0.trans (hC1.mono hb0.size)⟩
theorem alongA_le (regs : Int) (l : List OpD) (r : List UInt64) (i : Int) : (alongA regs l r i).length ≤ 64 := by
  by_cases h : alongE regs l r.length i = 0
  · obtain ⟨f, rfl, g, hn, h0, h1⟩ := alongE_good h
    rw [alongA_len g hn h0 h1]
    have := g.r2; omega
  · rw [alongA_bad h]; simp
theorem matA_le (regs : Int) (l : List OpD) (r : List UInt64) : (matA regs l r).length ≤ 64 ∧ ∀ x ∈ matA regs l r, x.length ≤ 64 := by
  by_cases h : dualE regs l r.length = 0
  · obtain ⟨f, e, g, hn⟩ := dualE_good h
    obtain ⟨nr, rfl⟩ : ∃ nr : Nat, regs = nr := ⟨regs.toNat, by have := g.r1; omega⟩
    have r2 : nr ≤ 64 := by have := g.r2; omega
    rw [matA_good h]
    refine ⟨by rw [matN_len]; exact r2, fun x hx => ?_⟩
    obtain ⟨q, hq, rfl⟩ := List.mem_map.1 hx
    simp; omega
  · unfold matA; rw [if_neg h]; simp
set_option maxRecDepth 100000 in
set_option maxHeartbeats 6400000 in
theorem JetDerives_calls (regs : Int) (a : Option Addr) (c : Nat) (l : List OpD) (ra : Option Addr) (rc : Nat) (r : List UInt64) (wa : Option Addr) (wc : Nat) (x : List UInt64) (i : Int) (w : World) (h : At w a l) (hr : At w ra r) (hw : At w wa x) (hl : l.length ≤ 1000000) :
    Calls Try.prog 6 #[.agg #[.int .i64 regs, .slice a l.length c], .slice ra r.length rc, .slice wa x.length wc, .int .i64 i] w fun e w' => e = .returned (.bool true) ∧ Below w.heap.size w w' := by
  have hb0 := below_new12 w (.cells #[.int .i64 regs, .slice a l.length c] 24)
  have hX := Blk.new w 24 #[.int .i64 regs, .slice a l.length c]
  have h1 := h.belowN hb0
  have hr1 := hr.belowN hb0
  have hw1 := hw.belowN hb0
  obtain ⟨rn, hrn⟩ : ∃ rn, rn = r.length := ⟨_, rfl⟩
  obtain ⟨wn, hwn⟩ : ∃ wn, wn = x.length := ⟨_, rfl⟩
  rw [← hrn, ← hwn]
  have HRN := hide hrn
  have HWN := hide hwn
  by_cases g1 : rn ≤ 100
  · by_cases g2 : wn ≤ 100
    · cases hs : small14 regs l 60 400 with
      | false =>
        have HS := hide hs
        clear hs h hr hw hrn hwn
        go_enter Try.func6, Try.ntmps6
        go_wp2_with (first
          | (go_at_call 33; go_must ((with_reducible refine (Small14_calls regs a c l _ _ false HS.out _ h1 hl (by omega) (by omega)).mono ?_); rintro e w1 ⟨rfl, hC1⟩))
          | (go_at_call 29; go_must ((with_reducible refine (goes14_calls _).mono ?_); rintro e w8 ⟨rfl, hb8⟩)))
        go_ret
        exact ⟨rfl, hb0.trans ((hC1.trans (hb8.mono hC1.size)).mono hb0.size)⟩
      | true =>
        have HS := hide hs
        obtain ⟨A, hA⟩ : ∃ A, alongA regs l r i = A := ⟨_, rfl⟩
        obtain ⟨E, hE⟩ : ∃ E, alongE regs l rn i = E := ⟨_, rfl⟩
        obtain ⟨M, hM⟩ : ∃ M, matA regs l r = M := ⟨_, rfl⟩
        obtain ⟨G, hG⟩ : ∃ G, dualE regs l rn = G := ⟨_, rfl⟩
        obtain ⟨P, hP⟩ : ∃ P, pullA regs l r x = P := ⟨_, rfl⟩
        obtain ⟨K, hK⟩ : ∃ K, pullE regs l rn wn = K := ⟨_, rfl⟩
        have hAl := alongA_le regs l r i
        have hMl := matA_le regs l r
        have hPl := pullA_len regs l r x
        rw [hA] at hAl
        rw [hM] at hMl
        rw [hP] at hPl
        obtain ⟨hMl1, hMl2⟩ := hMl
        have HA := hide hA
        have HE := hide hE
        have HM := hide hM
        have HG := hide hG
        have HP := hide hP
        have HK := hide hK
        have HML := hide (show ∀ l ∈ M, l.length ≤ 1000000000 from fun l hl => by have := hMl2 l hl; omega)
        clear hs h hr hw hrn hwn hA hE hM hG hP hK hMl2
        go_enter Try.func6, Try.ntmps6
        go_wp2_with (first
          | (go_at_call 33; go_must ((with_reducible refine (Small14_calls regs a c l _ _ true HS.out _ h1 hl (by omega) (by omega)).mono ?_); rintro e w1 ⟨rfl, hC1⟩; obtain ⟨q0, q1, q2, q3⟩ := (hX.belowN hC1).c2))
          | (go_at_call 34; go_must ((with_reducible refine (JAlong_calls regs a c _ l rfl ra rn rc r HRN.out i A E HA.out HE.out w1 (h1.belowN hC1) (by omega) (hr1.belowN hC1) (by omega)).mono ?_); rintro e w2 ⟨a2, c2, rfl, hA2, hb2⟩; have hC2 := hC1.trans (hb2.mono hC1.size); obtain ⟨q0, q1, q2, q3⟩ := (hX.belowN hC2).c2))
          | (go_at_call 35; go_must ((with_reducible refine (Along14_calls regs a c _ l rfl ra rn rc r HRN.out i A E HA.out HE.out w2 (h1.belowN hC2) (by omega) (hr1.belowN hC2) (by omega)).mono ?_); rintro e w3 ⟨a3, c3, rfl, hA3, hb3⟩; have hC3 := hC2.trans (hb3.mono hC2.size); have hA23 := hA2.belowN hb3; obtain ⟨q0, q1, q2, q3⟩ := (hX.belowN hC3).c2))
          | (go_at_call 36; go_must ((with_reducible refine (JMatrix_calls regs a c _ l rfl ra rn rc r HRN.out M G HM.out HG.out w3 (h1.belowN hC3) (by omega) (hr1.belowN hC3) (by omega)).mono ?_); rintro e w4 ⟨a4, c4, rfl, hM4, hb4⟩; have hC4 := hC3.trans (hb4.mono hC3.size); have hA24 := hA23.belowN hb4; have hA34 := hA3.belowN hb4; obtain ⟨q0, q1, q2, q3⟩ := (hX.belowN hC4).c2))
          | (go_at_call 37; go_must ((with_reducible refine (Matrix14_calls regs a c _ l rfl ra rn rc r HRN.out M G HM.out HG.out w4 (h1.belowN hC4) (by omega) (hr1.belowN hC4) (by omega)).mono ?_); rintro e w5 ⟨a5, c5, rfl, hM5, hb5⟩; have hC5 := hC4.trans (hb5.mono hC4.size); have hA25 := hA24.belowN hb5; have hA35 := hA34.belowN hb5; have hM45 := hM4.belowN hb5; obtain ⟨q0, q1, q2, q3⟩ := (hX.belowN hC5).c2))
          | (go_at_call 38; go_must ((with_reducible refine (JPull_calls regs a c _ l rfl ra rn rc r HRN.out wa wn wc x HWN.out P K HP.out HK.out w5 (h1.belowN hC5) (by omega) (hr1.belowN hC5) (hw1.belowN hC5) (by omega) (by omega)).mono ?_); rintro e w6 ⟨a6, c6, rfl, hP6, hb6⟩; have hC6 := hC5.trans (hb6.mono hC5.size); have hA26 := hA25.belowN hb6; have hA36 := hA35.belowN hb6; have hM46 := hM45.belowN hb6; have hM56 := hM5.belowN hb6; obtain ⟨q0, q1, q2, q3⟩ := (hX.belowN hC6).c2))
          | (go_at_call 26; go_must ((with_reducible refine (Pull14_calls regs a c _ l rfl ra rn rc r HRN.out wa wn wc x HWN.out P K HP.out HK.out w6 (h1.belowN hC6) (by omega) (hr1.belowN hC6) (hw1.belowN hC6) (by omega) (by omega)).mono ?_); rintro e w7 ⟨a7, c7, rfl, hP7, hb7⟩; have hC7 := hC6.trans (hb7.mono hC6.size); have hA27 := (hA26.belowN hb7).at_; have hA37 := (hA36.belowN hb7).at_; have hM47 := hM46.belowN hb7; have hM57 := hM56.belowN hb7; have hP67 := hP6.belowN hb7))
          | (go_at_call 27; first
              | (have hgd := q9; go_must ((with_reducible refine (Same5N _ _ _ _ _ _ P _ rfl rfl hP69 hP79 (by omega)).mono ?_); rintro e w10 ⟨rfl, q10, hw10⟩; have hC10 : Below _ _ w10 := (by rw [hw10]; exact below_drewN hC9 _); clear hw10))
              | go_must ((with_reducible refine (Same5N _ _ _ _ _ _ A _ rfl rfl hA27 hA37 (by omega)).mono ?_); rintro e w8 ⟨rfl, q8, hw8⟩; have hn8 : Below w7.heap.size w7 w8 := (by rw [hw8]; exact below_drawn _ _ _); have hC8 := hC7.trans (hn8.mono hC7.size); have hM48 := hM47.belowN hn8; have hM58 := hM57.belowN hn8; have hP68 := hP67.belowN hn8; have hP78 := hP7.belowN hn8; clear hw8))
          | (go_at_call 39; go_must ((with_reducible refine (Lists14_calls _ _ _ _ _ _ M rfl rfl _ hM48 hM58 (by omega) HML.out).mono ?_); rintro e w9 ⟨rfl, q9, hw9⟩; have hn9 : Below w8.heap.size w8 w9 := (by rw [hw9]; exact below_drawn _ _ _); have hC9 := hC8.trans (hn9.mono hC8.size); have hP69 := (hP68.belowN hn9).at_; have hP79 := (hP78.belowN hn9).at_; clear hw9))
          | (go_at_call 29; go_must ((with_reducible refine (goes14_calls _).mono ?_); rintro e w18 ⟨rfl, hb18⟩)))
        go_ret
        exact ⟨rfl, hb0.trans ((hC10.trans (hb18.mono hC10.size)).mono hb0.size)⟩
    · 
      go_enter Try.func6, Try.ntmps6
      go_wp2_with (go_at_call 29; go_must ((with_reducible refine (goes14_calls _).mono ?_); rintro e w8 ⟨rfl, hb8⟩))
      go_ret
      exact ⟨rfl, hb0.trans (hb8.mono hb0.size)⟩
  · 
      go_enter Try.func6, Try.ntmps6
      go_wp2_with (go_at_call 29; go_must ((with_reducible refine (goes14_calls _).mono ?_); rintro e w8 ⟨rfl, hb8⟩))
      go_ret
      exact ⟨rfl, hb0.trans (hb8.mono hb0.size)⟩
end Go.Proofs.Ythncfoompoheoaa
