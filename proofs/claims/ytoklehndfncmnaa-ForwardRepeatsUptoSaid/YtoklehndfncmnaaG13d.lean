/- Chapter 13: ForwardSteps. -/
import Derived.Test.YtoklehndfncmnaaG13c
namespace Go.Proofs.Ytoklehndfncmnaa
set_option linter.unusedVariables false
set_option linter.unusedSimpArgs false
open Go.RowKit

theorem uptoL_nat (U : List OpD) (k : Nat) : uptoL U (k : Int) = U.take k := by unfold uptoL; rw [if_neg (by omega), Int.toNat_natCast]
theorem run_step {regs : Int} {l : List OpD} {r A B : List UInt64} {k : Nat} (h : dimsS regs l r.length = 0) (hk : k < (unrS regs l).length) (hA : uptoS regs l r (k : Int) = A) (hB : uptoS regs l r ((k : Int) + 1) = B) :
    runR (((unrS regs l).drop k).take 1) A = B ∧ B.length = A.length ∧ (∀ x ∈ ((unrS regs l).drop k).take 1, InR A.length x) := by
  obtain ⟨f, rfl, g, hn⟩ := dims_good h
  rw [unrS_good g] at hk ⊢
  have e1 : ((k : Int) + 1) = ((k + 1 : Nat) : Int) := by omega
  rw [uptoS_good g hn, uptoL_nat] at hA
  rw [e1, uptoS_good g hn, uptoL_nat] at hB
  have hAl : A.length = regs.toNat := by rw [← hA, runR_length, startR_length _ _ (by omega)]
  have hBl : B.length = regs.toNat := by rw [← hB, runR_length, startR_length _ _ (by omega)]
  have hd : (f.unroll.drop k).take 1 = [f.unroll[k]] := by rw [List.drop_eq_getElem_cons hk]; rfl
  have hr1 := g.r1
  refine ⟨?_, by omega, fun x hx => ?_⟩
  · rw [hd, ← hA, ← hB, runR_snoc _ _ (List.getElem?_eq_getElem hk)]
    rfl
  · have : InR regs x := g.inR x (List.mem_of_mem_drop (List.mem_of_mem_take hx))
    rw [hAl]
    have e : ((regs.toNat : Nat) : Int) = regs := by omega
    rw [e]; exact this
set_option maxRecDepth 100000 in
set_option maxHeartbeats 6400000 in
theorem ForwardSteps_calls (regs : Int) (a : Option Addr) (c : Nat) (l : List OpD) (ra : Option Addr) (rc : Nat) (r : List UInt64) (n : Int) (w : World) (h : At w a l) (hr : At w ra r) (hn1 : -9223372036854775808 ≤ n) (hn2 : n ≤ 9223372036854775807) :
    Calls Try.prog 11 #[.agg #[.int .i64 regs, .slice a l.length c], .slice ra r.length rc, .int .i64 n] w fun e w' => e = .returned (.bool true) ∧ Below w.heap.size w w' := by
  have hb0 := below_new12 w (.cells #[.int .i64 regs, .slice a l.length c] 24)
  have hX := Blk.new w 24 #[.int .i64 regs, .slice a l.length c]
  have h1 := h.belowN hb0
  have hr1 := hr.belowN hb0
  by_cases hg : r.length ≤ 100
  · cases hs : small13 regs l 60 with
    | false =>
      have HS := hide hs
      clear hs
      go_enter Try.func11, Try.ntmps11
      go_wp2_with (first
        | (go_at_call 21; (with_reducible refine (Small13_calls regs a c l _ false HS.out _ h1 (by omega)).mono ?_); rintro e w1 ⟨rfl, hb1⟩; have hB1 := hb0.trans (hb1.mono hb0.size); have hz1 := hB1.size)
        | (go_at_call 22; (with_reducible refine (goes13_calls _).mono ?_); rintro e w8 ⟨rfl, hbel8⟩))
      go_ret
      first
        | exact ⟨rfl, hB1.trans (hbel8.mono hz1)⟩
        | exact ⟨rfl, hb0.trans (hbel8.mono hb0.size)⟩
    | true =>
      have hsl := small_le hs
      have hsf := small_few hs
      have HS := hide hs
      obtain ⟨U, hU⟩ : ∃ U, unrS regs l = U := ⟨_, rfl⟩
      obtain ⟨E, hE⟩ : ∃ E, checkS regs l = E := ⟨_, rfl⟩
      rw [hU] at hsf
      have HU := hide hU
      have HE := hide hE
      by_cases hE0 : E = 0
      · subst hE0
        rcases Int.lt_or_le regs r.length with hrr | hrr
        · clear hU hE hs
          go_enter Try.func11, Try.ntmps11
          go_wp2_with (first
          | (go_at_call 21; (with_reducible refine (Small13_calls regs a c l _ true HS.out _ h1 (by omega)).mono ?_); rintro e w1 ⟨rfl, hb1⟩; have hB1 := hb0.trans (hb1.mono hb0.size); have hz1 := hB1.size; have hX1 := hX.belowN hb1; have h2 := h1.belowN hb1; have hr2 := hr1.belowN hb1; obtain ⟨p0, p1, p2, p3⟩ := hX1.c2)
          | (go_at_call 15; go_must ((with_reducible refine (UnrollR regs a c l _ U _ HU.out HE.out h2 (by omega)).mono ?_); rintro e w2 ⟨a2, c2, rfl, hown2, hb2⟩; have hB2 := hB1.trans (hb2.mono hz1); have hz2 := hB2.size; have hX2 := hX1.belowN hb2; have h3 := h2.belowN hb2; have hr3 := hr2.belowN hb2; obtain ⟨q0, q1, q2, q3⟩ := hX2.c2))
          | (go_at_call 22; (with_reducible refine (goes13_calls _).mono ?_); rintro e w8 ⟨rfl, hbel8⟩))
          go_ret
          exact ⟨rfl, hB2.trans (hbel8.mono hz2)⟩
        · by_cases hU0 : U.length = 0
          · clear hU hE hs
            go_enter Try.func11, Try.ntmps11
            go_wp2_with (first
          | (go_at_call 21; (with_reducible refine (Small13_calls regs a c l _ true HS.out _ h1 (by omega)).mono ?_); rintro e w1 ⟨rfl, hb1⟩; have hB1 := hb0.trans (hb1.mono hb0.size); have hz1 := hB1.size; have hX1 := hX.belowN hb1; have h2 := h1.belowN hb1; have hr2 := hr1.belowN hb1; obtain ⟨p0, p1, p2, p3⟩ := hX1.c2)
          | (go_at_call 15; go_must ((with_reducible refine (UnrollR regs a c l _ U _ HU.out HE.out h2 (by omega)).mono ?_); rintro e w2 ⟨a2, c2, rfl, hown2, hb2⟩; have hB2 := hB1.trans (hb2.mono hz1); have hz2 := hB2.size; have hX2 := hX1.belowN hb2; have h3 := h2.belowN hb2; have hr3 := hr2.belowN hb2; obtain ⟨q0, q1, q2, q3⟩ := hX2.c2))
          | (go_at_call 22; (with_reducible refine (goes13_calls _).mono ?_); rintro e w8 ⟨rfl, hbel8⟩))
            go_ret
            exact ⟨rfl, hB2.trans (hbel8.mono hz2)⟩
          · have hdm : dimsS regs l r.length = 0 := by unfold dimsS; rw [if_neg (by simpa using hE), if_neg (by omega)]
            obtain ⟨lU, hlU⟩ : ∃ lU, U.length = lU := ⟨_, rfl⟩
            have hl0 : 0 < lU := by omega
            obtain ⟨q, hq⟩ : ∃ q, n.tmod (lU : Int) = q := ⟨_, rfl⟩
            have hq1 : q < lU := by rw [← hq]; exact Int.tmod_lt_of_pos _ (by omega)
            have hq2 : -(lU : Int) < q := by rw [← hq]; have := Int.lt_tmod_of_pos n (b := (lU : Int)) (by omega); omega
            obtain ⟨k, hk⟩ : ∃ k : Nat, (q + lU).tmod (lU : Int) = k := ⟨((q + lU).tmod (lU : Int)).toNat, by have := Int.tmod_nonneg (lU : Int) (a := q + lU) (by omega); omega⟩
            have hkl : k < lU := by have := Int.tmod_lt_of_pos (q + lU) (b := (lU : Int)) (by omega); omega
            obtain ⟨A, hA⟩ : ∃ A, uptoS regs l r (k : Int) = A := ⟨_, rfl⟩
            obtain ⟨B, hB⟩ : ∃ B, uptoS regs l r ((k : Int) + 1) = B := ⟨_, rfl⟩
            obtain ⟨s1, s2, s3⟩ := run_step hdm (by rw [hU, hlU]; exact hkl) hA hB
            have ha64 := uptoS_len regs l r (k : Int)
            rw [hU] at s1 s3
            rw [hA] at ha64
            have HA := hide hA
            have HB := hide hB
            have HD := hide hdm
            have HS1 := hide s1
            have HS2 := hide s2
            have HS3 := hide s3
            have HLU := hide hlU
            have HL1 := hide (show 1 = ((U.drop k).take 1).length by simp; omega)
            have hbb : decide (regs < (r.length : Int)) = false := by simp; omega
            have hbl64 := uptoS_len regs l r ((k : Int) + 1)
            rw [hB] at hbl64
            clear hU hE hs hA hB hdm s1 s2 s3 hU0
            rw [hlU] at hsf
            clear hlU
            go_enter Try.func11, Try.ntmps11
            go_wp2_with (first
              | (go_at_call 21; (with_reducible refine (Small13_calls regs a c l _ true HS.out _ h1 (by omega)).mono ?_); rintro e w1 ⟨rfl, hb1⟩; have hB1 := hb0.trans (hb1.mono hb0.size); have hz1 := hB1.size; have hX1 := hX.belowN hb1; have h2 := h1.belowN hb1; have hr2 := hr1.belowN hb1; obtain ⟨p0, p1, p2, p3⟩ := hX1.c2)
              | (go_at_call 15; go_must ((with_reducible refine (UnrollR regs a c l _ U _ HU.out HE.out h2 (by omega)).mono ?_); rw [HLU.out]; rintro e w2 ⟨a2, c2, rfl, hown2, hb2⟩; have hB2 := hB1.trans (hb2.mono hz1); have hz2 := hB2.size; have hX2 := hX1.belowN hb2; have h3 := h2.belowN hb2; have hr3 := hr2.belowN hb2; obtain ⟨q0, q1, q2, q3⟩ := hX2.c2; have hcap := hown2.cap; rw [HLU.out] at hcap))
              | (go_at_call 25; first
                  | ((with_reducible refine (UptoN regs _ _ _ l _ _ _ r _ ((k : Int) + 1) (by omega) _ B 0 rfl rfl HB.out HD.out h4 (by omega) hr4 (by omega)).mono ?_); rintro e w4 ⟨a4, c4, rfl, hown4, hb4⟩; have hB4 := hB3.trans (hb4.mono hz3); have hz4 := hB4.size; have hA4 := (hown3.belowN hb4).at_; have hB4' := hown4.at_; have hu4 : At w4 (cutA a2 k c2 5) ((U.drop k).take 1) := ((((hown2.belowN hb3).belowN hb4).at_.cut (k := k) (by rw [HLU.out]; exact hcap.1)).take 1))
                  | go_must ((with_reducible refine (UptoN regs _ _ _ l _ _ _ r _ (k : Int) (by omega) _ A 0 rfl rfl HA.out HD.out h3 (by omega) hr3 (by omega)).mono ?_); rintro e w3 ⟨a3, c3, rfl, hown3, hb3⟩; have hB3 := hB2.trans (hb3.mono hz2); have hz3 := hB3.size; have hX3 := hX2.belowN hb3; have h4 := h3.belowN hb3; have hr4 := hr3.belowN hb3; obtain ⟨r0, r1, r2, r3⟩ := hX3.c2))
              | (go_at_call 30; go_must ((with_reducible refine (Straight13N (cutA a2 k c2 5) _ ((U.drop k).take 1) 1 HL1.out _ _ A A.length rfl w4 hu4 (by rw [← HL1.out]; omega) hA4 (by omega) HS3.out).mono ?_); rw [HS1.out]; rintro e w5 ⟨a5, c5, rfl, hown5, hb5⟩; have hB5 := hB4.trans (hb5.mono hz4); have hz5 := hB5.size))
              | (go_at_call 27; go_must ((with_reducible refine (Same5N _ _ _ _ _ _ B _ rfl HS2.out.symm (hB4'.belowN hb5) hown5.at_ (by omega)).mono ?_); rintro e w7 ⟨rfl, q7, rfl⟩))
              | (go_at_call 22; (with_reducible refine (goes13_calls _).mono ?_); rintro e w8 ⟨rfl, hbel8⟩))
            go_ret
            exact ⟨rfl, (below_drewN hB5 _).trans (hbel8.mono (by simp; omega))⟩
      · have e1 : (E == 0) = false := by simpa using hE0
        have e2 : (E != 0) = true := by simpa using hE0
        clear hU hE hs hE0
        go_enter Try.func11, Try.ntmps11
        go_wp2_with (first
          | (go_at_call 21; (with_reducible refine (Small13_calls regs a c l _ true HS.out _ h1 (by omega)).mono ?_); rintro e w1 ⟨rfl, hb1⟩; have hB1 := hb0.trans (hb1.mono hb0.size); have hz1 := hB1.size; have hX1 := hX.belowN hb1; have h2 := h1.belowN hb1; have hr2 := hr1.belowN hb1; obtain ⟨p0, p1, p2, p3⟩ := hX1.c2)
          | (go_at_call 15; go_must ((with_reducible refine (UnrollR regs a c l _ U _ HU.out HE.out h2 (by omega)).mono ?_); rintro e w2 ⟨a2, c2, rfl, hown2, hb2⟩; have hB2 := hB1.trans (hb2.mono hz1); have hz2 := hB2.size; have hX2 := hX1.belowN hb2; have h3 := h2.belowN hb2; have hr3 := hr2.belowN hb2; obtain ⟨q0, q1, q2, q3⟩ := hX2.c2))
          | (go_at_call 22; (with_reducible refine (goes13_calls _).mono ?_); rintro e w8 ⟨rfl, hbel8⟩))
        go_ret
        exact ⟨rfl, hB2.trans (hbel8.mono hz2)⟩
  · go_enter Try.func11, Try.ntmps11
    go_wp2_with (go_at_call 22; (with_reducible refine (goes13_calls _).mono ?_); rintro e w8 ⟨rfl, hbel8⟩)
    go_ret
    exact ⟨rfl, hb0.trans (hbel8.mono hb0.size)⟩
end Go.Proofs.Ytoklehndfncmnaa
