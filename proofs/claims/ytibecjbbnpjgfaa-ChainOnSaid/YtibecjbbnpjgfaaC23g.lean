/- Chapters 10, 23: the document's Pair, Dims, New. -/
import Derived.Test.YtibecjbbnpjgfaaC23f
namespace Go.Proofs.Ytibecjbbnpjgfaa
set_option linter.unusedVariables false
set_option linter.unusedSimpArgs false
open Go.RowKit
theorem Dims10_calls (p q : PrD) (x t : Int) (hx : -9223372036854775808 ≤ x ∧ x ≤ 9223372036854775807) (ht : -9223372036854775808 ≤ t ∧ t ≤ 9223372036854775807) (w : World) :
    Calls Try.prog 85 #[.agg #[.int .i64 p.regs, .slice p.a p.l.length p.c], .agg #[.int .i64 q.regs, .slice q.a q.l.length q.c], .int .i64 x, .int .i64 t] w fun e w' => e = .returned (.int .i64 (dimsC p.regs q.regs x t)) ∧ Below w.heap.size w w' := by
  have hb0 : Below w.heap.size w ((w.alloc (.cells #[.int .i64 p.regs, .slice p.a p.l.length p.c] 24)).alloc (.cells #[.int .i64 q.regs, .slice q.a q.l.length q.c] 24)) := ((below_new _ _).alloc (by simp) _)
  go_enter Try.func85, Try.ntmps85
  go_wp2
  all_goals
    go_ret
    refine ⟨?_, hb0⟩
    unfold dimsC
    first
      | (rw [if_pos (by omega)] <;> rfl)
      | (rw [if_neg (by omega)] <;> rfl)
set_option maxHeartbeats 1600000 in
theorem Pair10_calls (p q : PrD) (w : World) (h : At w p.a p.l) (hl : p.l.length ≤ 1000000) (h' : At w q.a q.l) (hl' : q.l.length ≤ 1000000) (R : Int) (hR : pairS p q = R) :
    Calls Try.prog 84 #[.agg #[.int .i64 p.regs, .slice p.a p.l.length p.c], .agg #[.int .i64 q.regs, .slice q.a q.l.length q.c]] w fun e w' => e = .returned (.int .i64 R) ∧ Below w.heap.size w w' := by
  have hb0 : Below w.heap.size w ((w.alloc (.cells #[.int .i64 p.regs, .slice p.a p.l.length p.c] 24)).alloc (.cells #[.int .i64 q.regs, .slice q.a q.l.length q.c] 24)) := ((below_new _ _).alloc (by simp) _)
  have hX := (Blk.new w 24 #[.int .i64 p.regs, .slice p.a p.l.length p.c]).alloc (.cells #[.int .i64 q.regs, .slice q.a q.l.length q.c] 24)
  have hY := Blk.new (w.alloc (.cells #[.int .i64 p.regs, .slice p.a p.l.length p.c] 24)) 24 #[.int .i64 q.regs, .slice q.a q.l.length q.c]
  simp only [World.size_alloc] at hY
  have h1 := h.belowN hb0
  have h2 := h'.belowN hb0
  have HL := hide (fun k hk w' (g : At w' p.a p.l) => Look_calls k hk p.regs p.a p.c p.l w' g hl)
  have HM := hide (fun k hk w' (g : At w' q.a q.l) => Look_calls k hk q.regs q.a q.c q.l w' g hl')
  have hR2 : R = firstL [p, q] [0, 1, 2, 3] := hR.symm
  have HR := hide hR2
  clear hR hR2
  go_enter Try.func84, Try.ntmps84
  go_wp2
  obtain ⟨W0, hW0⟩ : ∃ W0, W0 = (w.alloc (.cells #[.int .i64 p.regs, .slice p.a p.l.length p.c] 24)).alloc (.cells #[.int .i64 q.regs, .slice q.a q.l.length q.c] 24) := ⟨_, rfl⟩
  rw [← hW0] at hX hY h1 h2 hb0 ⊢
  clear hW0
  go_loopw [5, 6, 7] (fun i _ _ wr => ∃ k : Nat, i = .int .i64 k ∧ k ≤ 4 ∧ Hid (R = firstL [p, q] ([0, 1, 2, 3].drop k)) ∧ Below W0.heap.size W0 wr) (fun i _ _ _ => 4 - (intOf i).toNat)
  case atStart => exact ⟨0, rfl, by omega, HR.out, Below.refl _ _⟩
  case round =>
    obtain ⟨k, rfl, hk, hRk, hbr⟩ := hrel
    obtain ⟨q0, q1, q2, q3⟩ := (hX.belowN hbr).c2
    obtain ⟨r0, r1, r2, r3⟩ := (hY.belowN hbr).c2
    by_cases hlt : k < 4
    · have hR2 : R = if rowE k [p, q] ≠ 0 then rowE k [p, q] else firstL [p, q] ([0, 1, 2, 3].drop (k + 1)) := by
        rw [hRk.out]
        have h4 : k = 0 ∨ k = 1 ∨ k = 2 ∨ k = 3 := by omega
        rcases h4 with rfl | rfl | rfl | rfl <;> rfl
      have hrow : rowE k [p, q] = if errI k p ≠ 0 then errI k p else errI k q := by
        rw [rowE, rowE_one]
      rw [hrow] at hR2
      have HC := hide (HL.out k hlt wr (h1.belowN hbr))
      have HD := hide (fun w' (hb : Below wr.heap.size wr w') => HM.out k hlt w' ((h2.belowN hbr).belowN hb))
      obtain ⟨E, hE⟩ : ∃ E, E = errI k p := ⟨_, rfl⟩
      obtain ⟨F, hF⟩ : ∃ F, F = errI k q := ⟨_, rfl⟩
      have hE' : errI k ⟨p.regs, p.a, p.c, p.l⟩ = E := hE.symm
      have hF' : errI k ⟨q.regs, q.a, q.c, q.l⟩ = F := hF.symm
      rw [hE'] at HC
      simp only [hF'] at HD
      rw [← hE, ← hF] at hR2
      have HR2 := hide hR2
      clear hE hF hR2 hRk hE' hF' hrow
      by_cases hE0 : E = 0
      · obtain rfl := hE0
        by_cases hF0 : F = 0
        · obtain rfl := hF0
          go_wp2_with (go_at_call 107; first
            | ((with_reducible refine (HD.out _ hb1).mono ?_); rintro e w2 ⟨rfl, hb2⟩)
            | ((with_reducible refine (HC.out).mono ?_); rintro e w1 ⟨rfl, hb1⟩; obtain ⟨s0, s1, s2, s3⟩ := ((hX.belowN hbr).belowN hb1).c2; obtain ⟨t0, t1, t2, t3⟩ := ((hY.belowN hbr).belowN hb1).c2))
          go_roundw
          case rel => exact ⟨k + 1, by go_num, by omega, by show R = _; rw [HR2.out]; rfl, (hbr.trans (hb1.mono hbr.size)).trans (hb2.mono (Nat.le_trans hbr.size hb1.size))⟩
          case measure => simp [intOf]; omega
        · have hE1 : (F == 0) = false := by simpa using hF0
          have hE2 : (F != 0) = true := by simpa using hF0
          have HF0 := hide hF0
          clear hF0
          go_wp2_with (go_at_call 107; first
            | ((with_reducible refine (HD.out _ hb1).mono ?_); rintro e w2 ⟨rfl, hb2⟩)
            | ((with_reducible refine (HC.out).mono ?_); rintro e w1 ⟨rfl, hb1⟩; obtain ⟨s0, s1, s2, s3⟩ := ((hX.belowN hbr).belowN hb1).c2; obtain ⟨t0, t1, t2, t3⟩ := ((hY.belowN hbr).belowN hb1).c2))
          go_ret
          have hRF : R = F := by rw [HR2.out]; simp [HF0.out]
          exact ⟨by rw [hRF] <;> rfl, hb0.trans (((hbr.trans (hb1.mono hbr.size)).trans (hb2.mono (Nat.le_trans hbr.size hb1.size))).mono hb0.size)⟩
      · have hE1 : (E == 0) = false := by simpa using hE0
        have hE2 : (E != 0) = true := by simpa using hE0
        have HE0 := hide hE0
        clear hE0
        go_wp2_with (go_at_call 107; ((with_reducible refine (HC.out).mono ?_); rintro e w1 ⟨rfl, hb1⟩))
        go_ret
        exact ⟨by rw [HR2.out, if_pos HE0.out, if_pos HE0.out] <;> rfl, hb0.trans ((hbr.trans (hb1.mono hbr.size)).mono hb0.size)⟩
    · obtain rfl : k = 4 := by omega
      go_wp2
      go_ret
      exact ⟨by rw [hRk.out] <;> rfl, hb0.trans (hbr.mono hb0.size)⟩
theorem New23_calls (c : ChD) (ta : Option Addr) (tc : Nat) (w : World) (h : At w c.p.a c.p.l) (hl : c.p.l.length ≤ 1000000) (h' : At w c.q.a c.q.l) (hl' : c.q.l.length ≤ 1000000) (hx : -9223372036854775808 ≤ c.x ∧ c.x ≤ 9223372036854775807) (hn : c.th.length ≤ 1000000) (E : Int) (hE : c.bad = E) :
    Calls Try.prog 47 #[.agg #[.int .i64 c.p.regs, .slice c.p.a c.p.l.length c.p.c, .int .i64 c.q.regs, .slice c.q.a c.q.l.length c.q.c, .int .i64 c.x, .slice ta c.th.length tc]] w fun e w' => e = .returned (.int .i64 E) ∧ Below w.heap.size w w' := by
  have hb0 := below_new w (.cells #[.int .i64 c.p.regs, .slice c.p.a c.p.l.length c.p.c, .int .i64 c.q.regs, .slice c.q.a c.q.l.length c.q.c, .int .i64 c.x, .slice ta c.th.length tc] 37)
  have hX := Blk.new w 37 #[.int .i64 c.p.regs, .slice c.p.a c.p.l.length c.p.c, .int .i64 c.q.regs, .slice c.q.a c.q.l.length c.q.c, .int .i64 c.x, .slice ta c.th.length tc]
  have h1 := h.belowN hb0
  have h2 := h'.belowN hb0
  obtain ⟨P, hP⟩ : ∃ P, pairS c.p c.q = P := ⟨_, rfl⟩
  unfold ChD.bad at hE
  rw [hP] at hE
  have HP := hide hP
  clear hP
  by_cases hP0 : P = 0
  · subst hP0
    rw [if_neg (by simp)] at hE
    have HD := hide (fun w => hE ▸ Dims10_calls c.p c.q c.x (c.th.length : Int) hx (by omega) w)
    clear hE
    go_enter Try.func47, Try.ntmps47
    go_wp2_with (first
      | (go_at_call 84; go_must ((with_reducible refine (Pair10_calls c.p c.q _ h1 hl h2 hl' 0 HP.out).mono ?_); rintro e w1 ⟨rfl, hb1⟩; have hB1 := hb0.trans (hb1.mono hb0.size); have hz1 := hB1.size; obtain ⟨p0, p1, p2, p3, p4, p5, p6, p7, p8, p9, p10, p11⟩ := (hX.belowN hb1).c6))
      | (go_at_call 85; go_must ((with_reducible refine (HD.out _).mono ?_); rintro e w2 ⟨rfl, hb2⟩)))
    go_ret
    exact ⟨rfl, hB1.trans (hb2.mono hz1)⟩
  · rw [if_pos hP0] at hE
    subst hE
    have e1 : (P == 0) = false := by simpa using hP0
    have e2 : (P != 0) = true := by simpa using hP0
    clear hP0
    go_enter Try.func47, Try.ntmps47
    go_wp2_with (go_at_call 84; go_must ((with_reducible refine (Pair10_calls c.p c.q _ h1 hl h2 hl' P HP.out).mono ?_); rintro e w1 ⟨rfl, hb1⟩; have hB1 := hb0.trans (hb1.mono hb0.size)))
    go_ret
    exact ⟨rfl, hB1⟩
end Go.Proofs.Ytibecjbbnpjgfaa
