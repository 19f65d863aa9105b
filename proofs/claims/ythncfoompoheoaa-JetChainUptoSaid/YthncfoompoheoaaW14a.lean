/- Chapter 14: JetRuns. -/
import Derived.Test.YthncfoompoheoaaG14
import Derived.Test.YthncfoompoheoaaQn
namespace Go.Proofs.Ythncfoompoheoaa
set_option linter.unusedVariables false
set_option linter.unusedSimpArgs false
open Go.RowKit
set_option maxHeartbeats 400000 in
theorem Duals14_calls (a b : Option Addr) (ca cb : Nat) (l : List DuD) (w : World) (h0 : At w a l) (h1 : At w b l) (hl : l.length ≤ 1000000000) :
    Calls Try.prog 32 #[.slice a l.length ca, .slice b l.length cb] w fun e w' => e = .returned (.bool true) ∧ ∃ n, w' = w.drewN n := by
  go_enter Try.func32, Try.ntmps32
  go_wp2
  go_loopw [5] (fun i wr => ∃ k : Nat, k ≤ l.length ∧ i = .int .i64 k ∧ ∃ q, wr = w.drewN q) (fun i _ => l.length - (intOf i).toNat)
  case atStart => exact ⟨0, by omega, rfl, ⟨0, rfl⟩⟩
  case round =>
    obtain ⟨k, hk, rfl, q, rfl⟩ := hrel
    by_cases hlt : k < l.length
    · obtain ⟨b1, off1, x, rfl, hx, hc0, hc1⟩ := h0.getDu (Below.refl _ _) hlt
      obtain ⟨b2, off2, y, rfl, hy, hd0, hd1⟩ := h1.getDu (Below.refl _ _) hlt
      obtain rfl : x = y := by have := hx.out.symm.trans hy.out; simpa using this
      go_wp2
      go_quiet (fail)
      go_wp2
      go_roundw
      case rel => exact ⟨k + 1, by omega, by go_num, ⟨_, rfl⟩⟩
      case measure => simp [intOf]; omega
    · go_wp2
      go_ret
      exact ⟨rfl, _, rfl⟩
theorem Duals14N (a b : Option Addr) (na nb ca cb : Nat) (l : List DuD) (w : World) (hna : na = l.length) (hnb : nb = l.length) (h0 : At w a l) (h1 : At w b l) (hl : l.length ≤ 1000000000) :
    Calls Try.prog 32 #[.slice a na ca, .slice b nb cb] w fun e w' => e = .returned (.bool true) ∧ ∃ n, w' = w.drewN n := by
  subst hna hnb
  exact Duals14_calls a b ca cb l w h0 h1 hl
theorem dualR_len (regs : Int) (l : List OpD) (r : List DuD) : (dualR regs l r).length ≤ 64 := by
  by_cases h : dualE regs l r.length = 0
  · obtain ⟨f, rfl, g, hn⟩ := dualE_good h
    rw [dualR_good g hn, runD_length, startD_length _ _ (by omega)]
    have := g.r2; omega
  · rw [dualR_bad h]; simp
theorem small_le14 {regs : Int} {l : List OpD} {m : Int} (h : small13 regs l m = true) : (l.length : Int) ≤ m := by
  unfold small13 at h
  simp only [Bool.and_eq_true, decide_eq_true_eq] at h
  exact h.1
set_option maxRecDepth 100000 in
set_option maxHeartbeats 3200000 in
theorem JetRuns_calls (regs : Int) (a : Option Addr) (c : Nat) (l : List OpD) (ra : Option Addr) (rc : Nat) (r : List DuD) (w : World) (h : At w a l) (hr : At w ra r) :
    Calls Try.prog 5 #[.agg #[.int .i64 regs, .slice a l.length c], .slice ra r.length rc] w fun e w' => e = .returned (.bool true) ∧ Below w.heap.size w w' := by
  have hb0 := below_new12 w (.cells #[.int .i64 regs, .slice a l.length c] 24)
  have hX := Blk.new w 24 #[.int .i64 regs, .slice a l.length c]
  have h1 := h.belowN hb0
  have hr1 := hr.belowN hb0
  obtain ⟨rn, hrn⟩ : ∃ rn, rn = r.length := ⟨_, rfl⟩
  rw [← hrn]
  have HRN := hide hrn
  clear hrn h hr
  by_cases hg : rn ≤ 100
  · cases hs : small13 regs l 100 with
    | false =>
      have HS := hide hs
      clear hs
      go_enter Try.func5, Try.ntmps5
      go_wp2_with (first
        | (go_at_call 28; go_must ((with_reducible refine (Small13_calls regs a c l _ false HS.out _ h1 (by omega)).mono ?_); rintro e w1 ⟨rfl, hC1⟩))
        | (go_at_call 29; go_must ((with_reducible refine (goes14_calls _).mono ?_); rintro e w8 ⟨rfl, hb8⟩)))
      go_ret
      exact ⟨rfl, hb0.trans ((hC1.trans (hb8.mono hC1.size)).mono hb0.size)⟩
    | true =>
      have hsl := small_le14 hs
      have HS := hide hs
      obtain ⟨A, hA⟩ : ∃ A, dualR regs l r = A := ⟨_, rfl⟩
      obtain ⟨E, hE⟩ : ∃ E, dualE regs l rn = E := ⟨_, rfl⟩
      have hAl := dualR_len regs l r
      rw [hA] at hAl
      have HA := hide hA
      have HE := hide hE
      clear hs hA hE
      go_enter Try.func5, Try.ntmps5
      go_wp2_with (first
        | (go_at_call 28; go_must ((with_reducible refine (Small13_calls regs a c l _ true HS.out _ h1 (by omega)).mono ?_); rintro e w1 ⟨rfl, hC1⟩; obtain ⟨q0, q1, q2, q3⟩ := (hX.belowN hC1).c2))
        | (go_at_call 30; go_must ((with_reducible refine (JRun_calls regs a c _ l rfl ra rn rc r HRN.out A E HA.out HE.out w1 (h1.belowN hC1) (by omega) (hr1.belowN hC1)).mono ?_); rintro e w2 ⟨a2, c2, rfl, hA2, hb2⟩; have hC2 := hC1.trans (hb2.mono hC1.size); obtain ⟨q0, q1, q2, q3⟩ := (hX.belowN hC2).c2))
        | (go_at_call 31; go_must ((with_reducible refine (Run14_calls regs a c _ l rfl ra rn rc r HRN.out A E HA.out HE.out w2 (h1.belowN hC2) (by omega) (hr1.belowN hC2)).mono ?_); rintro e w3 ⟨a3, c3, rfl, hA3, hb3⟩; have hC3 := hC2.trans (hb3.mono hC2.size)))
        | (go_at_call 32; go_must ((with_reducible refine (Duals14N _ _ _ _ _ _ A _ rfl rfl (hA2.belowN hb3).at_ hA3.at_ (by omega)).mono ?_); rintro e w4 ⟨rfl, q4, hw4⟩; have hC4 : Below _ _ w4 := (by rw [hw4]; exact below_drewN hC3 _); clear hw4))
        | (go_at_call 29; go_must ((with_reducible refine (goes14_calls _).mono ?_); rintro e w8 ⟨rfl, hb8⟩)))
      go_ret
      exact ⟨rfl, hb0.trans ((hC4.trans (hb8.mono hC4.size)).mono hb0.size)⟩
  · go_enter Try.func5, Try.ntmps5
    go_wp2_with (go_at_call 29; go_must ((with_reducible refine (goes14_calls _).mono ?_); rintro e w8 ⟨rfl, hb8⟩))
    go_ret
    exact ⟨rfl, hb0.trans (hb8.mono hb0.size)⟩
end Go.Proofs.Ythncfoompoheoaa
