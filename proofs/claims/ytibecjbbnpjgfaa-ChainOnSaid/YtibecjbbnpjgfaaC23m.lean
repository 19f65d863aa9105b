/- Chapter 23: ChainSteps. -/
import Derived.Test.YtibecjbbnpjgfaaC23l
namespace Go.Proofs.Ytibecjbbnpjgfaa
set_option linter.unusedVariables false
set_option linter.unusedSimpArgs false
open Go.RowKit
theorem small_lens {c : ChD} {m : Int} (h : smallC c m = true) : c.p.l.length ≤ 60 ∧ c.q.l.length ≤ 60 ∧ c.th.length ≤ 100 := by
  unfold smallC at h
  simp only [Bool.and_eq_true, decide_eq_true_eq] at h
  exact ⟨h.1.1.1, h.1.1.2, h.1.2⟩
theorem Same23 (a b : Option Addr) (ca cb n : Nat) (l : List UInt64) (w : World) (hn : n = l.length) (h0 : At w a l) (h1 : At w b l) (hl : n ≤ 1000000) :
    Calls Try.prog 16 #[.slice a n ca, .slice b n cb] w fun e w' => e = .returned (.bool true) ∧ ∃ q, w' = w.drewN q := by
  subst hn; exact Same5_calls a b ca cb l w h0 h1 (by omega)
set_option maxRecDepth 100000 in
set_option maxHeartbeats 3200000 in
theorem ChainSteps_calls (c : ChD) (ta : Option Addr) (tc : Nat) (t : Int) (a : Option Addr) (n k : Nat) (xs : List UInt64) (w : World) (h : At w c.p.a c.p.l) (h' : At w c.q.a c.q.l) (ht : At w ta c.th) (hat : At w a xs) (hn : n = xs.length) (hnk : n ≤ k) (hx : -9223372036854775808 ≤ c.x ∧ c.x ≤ 9223372036854775807) :
    Calls Try.prog 4 #[.agg #[.int .i64 c.p.regs, .slice c.p.a c.p.l.length c.p.c, .int .i64 c.q.regs, .slice c.q.a c.q.l.length c.q.c, .int .i64 c.x, .slice ta c.th.length tc], .int .i64 t, .slice a n k] w fun e w' => e = .returned (.bool true) ∧ Below w.heap.size w w' := by
  have hb0 := below_new w (.cells #[.int .i64 c.p.regs, .slice c.p.a c.p.l.length c.p.c, .int .i64 c.q.regs, .slice c.q.a c.q.l.length c.q.c, .int .i64 c.x, .slice ta c.th.length tc] 37)
  have hX := Blk.new w 37 #[.int .i64 c.p.regs, .slice c.p.a c.p.l.length c.p.c, .int .i64 c.q.regs, .slice c.q.a c.q.l.length c.q.c, .int .i64 c.x, .slice ta c.th.length tc]
  have h1 := h.belowN hb0
  have h2 := h'.belowN hb0
  have ht1 := ht.belowN hb0
  cases hs : smallC c 3000 with
  | false =>
    have HS := hide hs
    clear hs hn
    go_enter Try.func4, Try.ntmps4
    go_wp2_with (first
      | (go_at_call 17; go_must ((with_reducible refine (Small23_calls c ta tc _ false HS.out _ h1 h2).mono ?_); rintro e w1 ⟨rfl, hb1⟩; have hB1 := hb0.trans (hb1.mono hb0.size); have hz1 := hB1.size))
      | (go_at_call 18; (with_reducible refine (goes23_calls _).mono ?_); rintro e w8 ⟨rfl, hbel8⟩))
    go_ret
    exact ⟨rfl, hB1.trans (hbel8.mono hz1)⟩
  | true =>
    obtain ⟨s1, s2, s3⟩ := small_lens hs
    have HS := hide hs
    rcases Nat.lt_or_ge 100 n with hn1 | hn1
    · have u1 : (100 : Int) < (n : Int) := by omega
      clear hs hn
      go_enter Try.func4, Try.ntmps4
      go_wp2_with (first
        | (go_at_call 17; go_must ((with_reducible refine (Small23_calls c ta tc _ true HS.out _ h1 h2).mono ?_); rintro e w1 ⟨rfl, hb1⟩; have hB1 := hb0.trans (hb1.mono hb0.size); have hz1 := hB1.size))
        | (go_at_call 18; (with_reducible refine (goes23_calls _).mono ?_); rintro e w8 ⟨rfl, hbel8⟩))
      go_ret
      exact ⟨rfl, hB1.trans (hbel8.mono hz1)⟩
    · have u1 : ¬ ((100 : Int) < (n : Int)) := by omega
      by_cases hbad : c.bad = 0
      case neg =>
        clear hs hn
        go_enter Try.func4, Try.ntmps4
        go_wp2_with (first
          | (go_at_call 17; go_must ((with_reducible refine (Small23_calls c ta tc _ true HS.out _ h1 h2).mono ?_); rintro e w1 ⟨rfl, hb1⟩; have hB1 := hb0.trans (hb1.mono hb0.size); have hz1 := hB1.size; have h3 := h1.belowN hb1; have h4 := h2.belowN hb1; obtain ⟨p0, p1, p2, p3, p4, p5, p6, p7, p8, p9, p10, p11⟩ := (hX.belowN hb1).c6))
          | (go_at_call 19; go_must ((with_reducible refine (MadeBad_calls c ta tc _ h3 (by omega) h4 (by omega) hx (by omega) hbad).mono ?_); rintro e w2 ⟨rfl, hb2⟩; have hB2 := hB1.trans (hb2.mono hz1); have hz2 := hB2.size))
          | (go_at_call 18; (with_reducible refine (goes23_calls _).mono ?_); rintro e w8 ⟨rfl, hbel8⟩))
        go_ret
        exact ⟨rfl, hB2.trans (hbel8.mono hz2)⟩
      have hc := ChD.ok_of hbad
      by_cases hnx : (n : Int) = c.x
      · obtain ⟨R, hR⟩ : ∃ R, c.loss xs = R := ⟨_, rfl⟩
        have HR := hide hR
        have HN := hide hn
        have HNX := hide hnx
        have rr : ((R.toNat : Int) == (R.toNat : Int)) = true := by simp
        by_cases ht0 : t < 0 ∨ 65536 ≤ t
        · have HE : Hid (c.may t n = 2) := hide (by unfold ChD.may; rw [if_pos ht0])
          have HE0 : Hid ((2 : Int) ≠ 0) := hide (by decide)
          clear hs hn hnx hR
          go_enter Try.func4, Try.ntmps4
          go_wp2_with (first
          | (go_at_call 17; go_must ((with_reducible refine (Small23_calls c ta tc _ true HS.out _ h1 h2).mono ?_); rintro e w1 ⟨rfl, hb1⟩; have hB1 := hb0.trans (hb1.mono hb0.size); have hz1 := hB1.size; have h3 := h1.belowN hb1; have h4 := h2.belowN hb1; have h5 := ht1.belowN hb1; have hX1 := hX.belowN hb1; have hx1 := (hat.belowN hb0).belowN hb1; obtain ⟨p0, p1, p2, p3, p4, p5, p6, p7, p8, p9, p10, p11⟩ := hX1.c6))
          | (go_at_call 19; go_must ((with_reducible refine (MadeGood_calls c ta tc _ h3 (by omega) h4 (by omega) h5 hx (by omega) hbad).mono ?_); rintro e w2 ⟨g, rfl, hch, hg, hb2⟩; have hB2 := hB1.trans (hb2.mono hz1); have hz2 := hB2.size; have hX2 := hX1.belowN hb2; have q1 := h3.belowN hb2; have q2 := h4.belowN hb2; have q3 := h5.belowN hb2; have hx2 := hx1.belowN hb2; obtain ⟨r0, r1, r2, r3, r4, r5, r6, r7, r8, r9, r10, r11⟩ := hX2.c6))
          | (go_at_call 20; go_must ((with_reducible refine (StepBad_calls g c t a n k _ hch (by omega) 2 HE.out HE0.out).mono ?_); rintro e w3 ⟨rfl, rfl⟩))
          | (go_at_call 21; go_must ((with_reducible refine (RStepBad_calls c ta tc t a n k _ (by omega) 2 HE.out HE0.out).mono ?_); rintro e w4 ⟨rfl, hb4⟩; have hch4 := hch.belowN hb4; have hB4 := hB2.trans (hb4.mono hz2); have hz4 := hB4.size; have hX4 := hX2.belowN hb4; have t1 := q1.belowN hb4; have t2 := q2.belowN hb4; have t3 := q3.belowN hb4; have hx4 := hx2.belowN hb4; have hS4 : At w4 none ([] : List UInt64) := At.nil _ _; have hT4 : At w4 none ([] : List UInt64) := At.nil _ _; obtain ⟨y0, y1, y2, y3, y4, y5, y6, y7, y8, y9, y10, y11⟩ := hX4.c6))
          | (go_at_call 22; go_must ((with_reducible refine (LossGood_calls g c hc a n k xs _ hch4 hx4 HN.out hnk HNX.out R HR.out).mono ?_); rintro e w5 ⟨rfl, hb5⟩; have hB5 := hB4.trans (hb5.mono hz4); have hz5 := hB5.size; have hX5 := hX4.belowN hb5; have l2 := t2.belowN hb5; have l3 := t3.belowN hb5; have hx5 := hx4.belowN hb5; have hS5 := hS4.belowN hb5; have hT5 := hT4.belowN hb5; obtain ⟨z0, z1, z2, z3, z4, z5, z6, z7, z8, z9, z10, z11⟩ := hX5.c6))
          | (go_at_call 23; go_must ((with_reducible refine (RLossGood_calls c hc ta tc a n k xs _ l2 l3 hx5 HN.out HNX.out R HR.out).mono ?_); rintro e w6 ⟨rfl, hb6⟩; have hB6 := hB5.trans (hb6.mono hz5); have hz6 := hB6.size; have hS6 := hS5.belowN hb6; have hT6 := hT5.belowN hb6))
          | (go_at_call 16; go_must ((refine (Same5_calls none none 0 0 ([] : List UInt64) _ (At.nil _ _) (At.nil _ _) (by decide)).mono ?_); rintro e w7 ⟨rfl, q7, rfl⟩))
          | (go_at_call 18; (with_reducible refine (goes23_calls _).mono ?_); rintro e w8 ⟨rfl, hbel8⟩))
          go_ret
          have hB7 := hB6.trans (below_drawn w6 w.heap.size q7)
          exact ⟨rfl, hB7.trans (hbel8.mono hB7.size)⟩
        · obtain ⟨v, rfl⟩ : ∃ v : UInt64, t = (v.toNat : Int) := ⟨UInt64.ofNat t.toNat, by rw [UInt64.toNat_ofNat', Nat.mod_eq_of_lt (by omega)]; omega⟩
          have hv : v.toNat < 65536 := by omega
          obtain ⟨S, hS⟩ : ∃ S, c.step (v.toNat : Int) xs = S := ⟨_, rfl⟩
          have HS1 := hide hS
          have HSN := hide (show n = S.length by have := c.step_length hc (t := (v.toNat : Int)) (xs := xs) (by rw [← hn]; exact hnx); rw [hS] at this; omega)
          clear hs hn hnx hR hS
          go_enter Try.func4, Try.ntmps4
          go_wp2_with (first
          | (go_at_call 17; go_must ((with_reducible refine (Small23_calls c ta tc _ true HS.out _ h1 h2).mono ?_); rintro e w1 ⟨rfl, hb1⟩; have hB1 := hb0.trans (hb1.mono hb0.size); have hz1 := hB1.size; have h3 := h1.belowN hb1; have h4 := h2.belowN hb1; have h5 := ht1.belowN hb1; have hX1 := hX.belowN hb1; have hx1 := (hat.belowN hb0).belowN hb1; obtain ⟨p0, p1, p2, p3, p4, p5, p6, p7, p8, p9, p10, p11⟩ := hX1.c6))
          | (go_at_call 19; go_must ((with_reducible refine (MadeGood_calls c ta tc _ h3 (by omega) h4 (by omega) h5 hx (by omega) hbad).mono ?_); rintro e w2 ⟨g, rfl, hch, hg, hb2⟩; have hB2 := hB1.trans (hb2.mono hz1); have hz2 := hB2.size; have hX2 := hX1.belowN hb2; have q1 := h3.belowN hb2; have q2 := h4.belowN hb2; have q3 := h5.belowN hb2; have hx2 := hx1.belowN hb2; obtain ⟨r0, r1, r2, r3, r4, r5, r6, r7, r8, r9, r10, r11⟩ := hX2.c6))
          | (go_at_call 20; go_must ((with_reducible refine (StepGood_calls g c hc v a n k xs _ hch hx2 HN.out hnk HNX.out hv S HS1.out).mono ?_); rintro e w3 ⟨a3, k3, rfl, hk3, hS3, hf3, hb3⟩; have hB3 := hB2.trans (hb3.mono hz2); have hz3 := hB3.size; have hX3 := hX2.belowN hb3; have hch3 := hch.belowN hb3; have v1 := q1.belowN hb3; have v2 := q2.belowN hb3; have v3 := q3.belowN hb3; have hx3 := hx2.belowN hb3; obtain ⟨m0, m1, m2, m3, m4, m5, m6, m7, m8, m9, m10, m11⟩ := hX3.c6))
          | (go_at_call 21; go_must ((with_reducible refine (RStepGood_calls c hc ta tc v a n k xs _ v1 v3 hx3 HN.out HNX.out hv S HS1.out).mono ?_); rintro e w4 ⟨a4, k4, rfl, hk4, hT4, hf4, hb4⟩; have hch4 := hch3.belowN hb4; have hB4 := hB3.trans (hb4.mono hz3); have hz4 := hB4.size; have hX4 := hX3.belowN hb4; have t2 := v2.belowN hb4; have t3 := v3.belowN hb4; have hx4 := hx3.belowN hb4; have hS4 := hS3.belowN hb4; obtain ⟨y0, y1, y2, y3, y4, y5, y6, y7, y8, y9, y10, y11⟩ := hX4.c6))
          | (go_at_call 22; go_must ((with_reducible refine (LossGood_calls g c hc a n k xs _ hch4 hx4 HN.out hnk HNX.out R HR.out).mono ?_); rintro e w5 ⟨rfl, hb5⟩; have hB5 := hB4.trans (hb5.mono hz4); have hz5 := hB5.size; have hX5 := hX4.belowN hb5; have l2 := t2.belowN hb5; have l3 := t3.belowN hb5; have hx5 := hx4.belowN hb5; have hS5 := hS4.belowN hb5; have hT5 := hT4.belowN hb5; obtain ⟨z0, z1, z2, z3, z4, z5, z6, z7, z8, z9, z10, z11⟩ := hX5.c6))
          | (go_at_call 23; go_must ((with_reducible refine (RLossGood_calls c hc ta tc a n k xs _ l2 l3 hx5 HN.out HNX.out R HR.out).mono ?_); rintro e w6 ⟨rfl, hb6⟩; have hB6 := hB5.trans (hb6.mono hz5); have hz6 := hB6.size; have hS6 := hS5.belowN hb6; have hT6 := hT5.belowN hb6))
          | (go_at_call 16; go_must ((refine (Same23 a3 a4 k3 k4 n S _ HSN.out hS6 hT6 (by omega)).mono ?_); rintro e w7 ⟨rfl, q7, rfl⟩))
          | (go_at_call 18; (with_reducible refine (goes23_calls _).mono ?_); rintro e w8 ⟨rfl, hbel8⟩))
          go_ret
          have hB7 := hB6.trans (below_drawn w6 w.heap.size q7)
          exact ⟨rfl, hB7.trans (hbel8.mono hB7.size)⟩
      · obtain ⟨E, hE⟩ : ∃ E, c.may t n = E := ⟨_, rfl⟩
        obtain ⟨F, hF⟩ : ∃ F, c.may 0 n = F := ⟨_, rfl⟩
        have hE0 : E ≠ 0 := by
          rw [← hE]
          unfold ChD.may
          by_cases q : t < 0 ∨ 65536 ≤ t
          · rw [if_pos q]; omega
          · rw [if_neg q, if_pos hnx]; omega
        have hF0 : F ≠ 0 := by rw [← hF]; unfold ChD.may; rw [if_neg (by omega), if_pos hnx]; omega
        have HE := hide hE
        have HF := hide hF
        have HE0 := hide hE0
        have HF0 := hide hF0
        have ee : (E == E) = true := by simp
        have ff : (F == F) = true := by simp
        clear hs hn hE hF hE0 hF0 hnx
        go_enter Try.func4, Try.ntmps4
        go_wp2_with (first
          | (go_at_call 17; go_must ((with_reducible refine (Small23_calls c ta tc _ true HS.out _ h1 h2).mono ?_); rintro e w1 ⟨rfl, hb1⟩; have hB1 := hb0.trans (hb1.mono hb0.size); have hz1 := hB1.size; have h3 := h1.belowN hb1; have h4 := h2.belowN hb1; have h5 := ht1.belowN hb1; have hX1 := hX.belowN hb1; have hx1 := (hat.belowN hb0).belowN hb1; obtain ⟨p0, p1, p2, p3, p4, p5, p6, p7, p8, p9, p10, p11⟩ := hX1.c6))
          | (go_at_call 19; go_must ((with_reducible refine (MadeGood_calls c ta tc _ h3 (by omega) h4 (by omega) h5 hx (by omega) hbad).mono ?_); rintro e w2 ⟨g, rfl, hch, hg, hb2⟩; have hB2 := hB1.trans (hb2.mono hz1); have hz2 := hB2.size; have hX2 := hX1.belowN hb2; have q1 := h3.belowN hb2; have q2 := h4.belowN hb2; have q3 := h5.belowN hb2; have hx2 := hx1.belowN hb2; obtain ⟨r0, r1, r2, r3, r4, r5, r6, r7, r8, r9, r10, r11⟩ := hX2.c6))
          | (go_at_call 20; go_must ((with_reducible refine (StepBad_calls g c t a n k _ hch (by omega) E HE.out HE0.out).mono ?_); rintro e w3 ⟨rfl, rfl⟩))
          | (go_at_call 21; go_must ((with_reducible refine (RStepBad_calls c ta tc t a n k _ (by omega) E HE.out HE0.out).mono ?_); rintro e w4 ⟨rfl, hb4⟩; have hch4 := hch.belowN hb4; have hB4 := hB2.trans (hb4.mono hz2); have hz4 := hB4.size; have hX4 := hX2.belowN hb4; have t1 := q1.belowN hb4; have t2 := q2.belowN hb4; have t3 := q3.belowN hb4; have hx4 := hx2.belowN hb4; obtain ⟨y0, y1, y2, y3, y4, y5, y6, y7, y8, y9, y10, y11⟩ := hX4.c6))
          | (go_at_call 22; go_must ((with_reducible refine (LossBad_calls g c a n k _ hch4 (by omega) F HF.out HF0.out).mono ?_); rintro e w5 ⟨rfl, rfl⟩))
          | (go_at_call 23; go_must ((with_reducible refine (RLossBad_calls c ta tc a n k _ F HF.out HF0.out).mono ?_); rintro e w6 ⟨rfl, hb6⟩; have hB6 := hB4.trans (hb6.mono hz4); have hz6 := hB6.size))
          | (go_at_call 16; go_must ((refine (Same5_calls none none 0 0 ([] : List UInt64) _ (At.nil _ _) (At.nil _ _) (by decide)).mono ?_); rintro e w7 ⟨rfl, q7, rfl⟩))
          | (go_at_call 18; (with_reducible refine (goes23_calls _).mono ?_); rintro e w8 ⟨rfl, hbel8⟩))
        go_ret
        have hB7 := hB6.trans (below_drawn w6 w.heap.size q7)
        exact ⟨rfl, hB7.trans (hbel8.mono hB7.size)⟩
end Go.Proofs.Ytibecjbbnpjgfaa
