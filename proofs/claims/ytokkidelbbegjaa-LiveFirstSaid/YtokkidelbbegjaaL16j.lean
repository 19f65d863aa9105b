/- Chapter 16: LiveTells. -/
import Derived.Test.YtokkidelbbegjaaL16i
namespace Go.Proofs.Ytokkidelbbegjaa
set_option linter.unusedVariables false
set_option linter.unusedSimpArgs false
open Go.RowKit Go.Shelf
theorem small_le16 {regs : Int} {l : List OpD} {m : Int} (h : small13 regs l m = true) : (l.length : Int) ≤ m := by
  unfold small13 at h
  simp only [Bool.and_eq_true, decide_eq_true_eq] at h
  exact h.1
theorem trues_le (w : List Bool) : (trues w).length ≤ w.length := by
  unfold trues
  rw [List.length_map]
  exact Nat.le_trans (List.length_filter_le _ _) (by simp)
theorem live_sizes (regs : Int) (l : List OpD) (outs : List Int) : (liveO regs l outs).length ≤ 4096 ∧ (liveF regs l outs).length ≤ 64 ∧ liveC regs l outs ≤ 65536 := by
  by_cases hc : checkS regs l = 0
  · obtain ⟨f, rfl, g⟩ := good_of_check hc
    cases hB : outsB regs outs with
    | true =>
      obtain ⟨e0, e1, e2, e3⟩ := live_good g hB
      rw [e1, e2, e3]
      have hw : (f.look regs outs).want.length = regs.toNat := by unfold Fo.look; rw [(lvRun_lengths _ _).1]; simp [lv0, markL_length]
      have hr := g.r2
      have hr1 := g.r1
      refine ⟨by rw [look_ops_length]; exact g.len, by have := trues_le (f.look regs outs).want; omega, ?_⟩
      have h1 := (lvRun_lengths f.zl (lv0 regs.toNat f.size outs)).2.2
      have h2 : f.zl.length = f.wr := by unfold Fo.zl; rw [List.length_zip, Fo.pls_length, Fo.unroll_length]; omega
      have h3 := g.few
      rw [h2] at h1
      simp only [lv0, Nat.zero_add] at h1
      unfold Fo.look
      exact Nat.le_trans h1 h3
    | false =>
      obtain ⟨e0, e1, e2, e3⟩ := live_arg g hB
      rw [e1, e2, e3]; simp
  · have h2 : liveE regs l outs = checkS regs l := by unfold liveE; rw [if_pos hc]
    obtain ⟨e1, e2, e3⟩ := live_bad (regs := regs) (l := l) (outs := outs) (by rw [h2]; exact hc)
    rw [e1, e2, e3]; simp
set_option maxRecDepth 100000 in
set_option maxHeartbeats 3200000 in
theorem LiveTells_calls (regs : Int) (a : Option Addr) (c : Nat) (l : List OpD) (oa : Option Addr) (oc : Nat) (outs : List Int) (w : World) (h : At w a l) (ho : At w oa outs) :
    Calls Try.prog 4 #[.agg #[.int .i64 regs, .slice a l.length c], .slice oa outs.length oc] w fun e w' => e = .returned (.bool true) ∧ Below w.heap.size w w' := by
  have hb0 := below_new12 w (.cells #[.int .i64 regs, .slice a l.length c] 24)
  have hX := Blk.new w 24 #[.int .i64 regs, .slice a l.length c]
  have h1 := h.belowN hb0
  have ho1 := ho.belowN hb0
  obtain ⟨n, hn⟩ : ∃ n, n = outs.length := ⟨_, rfl⟩
  have HN := hide hn
  rw [← hn]
  by_cases hg : n ≤ 100
  · cases hs : small13 regs l 100 with
    | false =>
      have HS := hide hs
      clear hs hn
      go_enter Try.func4, Try.ntmps4
      go_wp2_with (first
        | (go_at_call 18; (with_reducible refine (Small13_calls regs a c l _ false HS.out _ h1 (by omega)).mono ?_); rintro e w1 ⟨rfl, hb1⟩; have hB1 := hb0.trans (hb1.mono hb0.size); have hz1 := hB1.size)
        | (go_at_call 19; (with_reducible refine (goes16_calls _).mono ?_); rintro e w8 ⟨rfl, hbel8⟩))
      go_ret
      first
        | exact ⟨rfl, hB1.trans (hbel8.mono hz1)⟩
        | exact ⟨rfl, hb0.trans (hbel8.mono hb0.size)⟩
    | true =>
      have hsl := small_le16 hs
      have HS := hide hs
      obtain ⟨hz0, hz1', hz2'⟩ := live_sizes regs l outs
      obtain ⟨O, hO⟩ : ∃ O, liveO regs l outs = O := ⟨_, rfl⟩
      obtain ⟨Fi, hF⟩ : ∃ Fi, liveF regs l outs = Fi := ⟨_, rfl⟩
      obtain ⟨C, hC⟩ : ∃ C, liveC regs l outs = C := ⟨_, rfl⟩
      obtain ⟨E, hE⟩ : ∃ E, liveE regs l outs = E := ⟨_, rfl⟩
      rw [hO] at hz0
      rw [hF] at hz1'
      rw [hC] at hz2'
      have HO := hide hO
      have HF := hide hF
      have HC := hide hC
      have HE := hide hE
      clear hO hF hC hE hs hn
      go_enter Try.func4, Try.ntmps4
      go_wp2_with (first
        | (go_at_call 18; go_must ((with_reducible refine (Small13_calls regs a c l _ true HS.out _ h1 (by omega)).mono ?_); rintro e w1 ⟨rfl, hb1⟩; have hB1 := hb0.trans (hb1.mono hb0.size); have hz1 := hB1.size; have hX1 := hX.belowN hb1; have h2 := h1.belowN hb1; have ho2 := ho1.belowN hb1; obtain ⟨p0, p1, p2, p3⟩ := hX1.c2))
        | (go_at_call 20; go_must ((with_reducible refine (Look16_calls regs a c _ l rfl oa oc n outs HN.out _ h2 (by omega) ho2 (by omega) O Fi C E HO.out HF.out HC.out HE.out).mono ?_); rintro e w2 ⟨ap, cp, ai, ci, rfl, hown2, hown2', hb2⟩; have hB2 := hB1.trans (hb2.mono hz1); have hz2 := hB2.size; have hn2 := below_new12 w2 (.cells #[.slice ap O.length cp, .slice ai Fi.length ci, .int .i64 (C : Int)] 46); have hF3 := Blk.new w2 46 #[.slice ap O.length cp, .slice ai Fi.length ci, .int .i64 (C : Int)]; have hX2 := (hX1.belowN hb2).belowN hn2; have h3 := (h2.belowN hb2).belowN hn2; have ho3 := (ho2.belowN hb2).belowN hn2; have hB3 := hB2.trans (hn2.mono hz2); have hz3 := hB3.size; have hm2 := hown2.belowN hn2; have hm2' := hown2'.belowN hn2; obtain ⟨q0, q1, q2, q3⟩ := hX2.c2))
        | (go_at_call 21; go_must ((with_reducible refine (NeededN regs a c _ l rfl oa oc n outs HN.out _ O Fi C E _ _ rfl rfl HO.out HF.out HC.out HE.out h3 (by omega) ho3 (by omega)).mono ?_); rintro e w4 ⟨⟨a4, c4, rfl, hown4⟩, hb4⟩; have hB4 := hB3.trans (hb4.mono hz3); have hz4 := hB4.size; have hX4 := hX2.belowN hb4; have h4 := h3.belowN hb4; have ho4 := ho3.belowN hb4; have hF4 := hF3.belowN hb4; have hm4 := hm2.belowN hb4; have hm4' := hm2'.belowN hb4; obtain ⟨r0, r1, r2, r3⟩ := hX4.c2))
        | (go_at_call 22; go_must ((with_reducible refine (FirstN regs a c _ l rfl oa oc n outs HN.out _ O Fi C E _ _ rfl rfl HO.out HF.out HC.out HE.out h4 (by omega) ho4 (by omega)).mono ?_); rintro e w5 ⟨⟨a5, c5, rfl, hown5⟩, hb5⟩; have hB5 := hB4.trans (hb5.mono hz4); have hz5 := hB5.size; have hX5 := hX4.belowN hb5; have h5 := h4.belowN hb5; have ho5 := ho4.belowN hb5; have hF5 := hF4.belowN hb5; have hm5 := hm4.belowN hb5; have hm5' := hm4'.belowN hb5; have ho45 := hown4.belowN hb5; obtain ⟨s0, s1, s2, s3⟩ := hX5.c2))
        | (go_at_call 23; go_must ((with_reducible refine (CountN regs a c _ l rfl oa oc n outs HN.out _ O Fi C E _ _ rfl rfl HO.out HF.out HC.out HE.out h5 (by omega) ho5 (by omega)).mono ?_); rintro e w6 ⟨rfl, hb6⟩; have hB6 := hB5.trans (hb6.mono hz5); have hz6 := hB6.size; have hF6 := hF5.belowN hb6; have hm6 := (hm5.belowN hb6).at_; have hm6' := (hm5'.belowN hb6).at_; have ho46 := (ho45.belowN hb6).at_; have ho56 := (hown5.belowN hb6).at_; obtain ⟨t0, t1, t2, t3, t4, t5⟩ := hF6.c3))
        | (go_at_call 24; go_must ((with_reducible refine (Bools16N _ _ _ _ _ _ O _ rfl rfl ho46 hm6 (by omega)).mono ?_); rintro e w7 ⟨rfl, q7, rfl⟩))
        | (go_at_call 15; go_must ((with_reducible refine (Ints7N _ _ _ _ _ _ Fi _ rfl rfl (ho56.drewN q7) (hm6'.drewN q7) (by omega)).mono ?_); rintro e w7 ⟨rfl, q8, rfl⟩))
        | (go_at_call 19; go_must ((with_reducible refine (goes16_calls _).mono ?_); rintro e w8 ⟨rfl, hbel8⟩)))
      go_ret
      exact ⟨rfl, (below_drewN hB6 _).trans (hbel8.mono (by simp; omega))⟩
  · go_enter Try.func4, Try.ntmps4
    go_wp2_with (go_at_call 19; (with_reducible refine (goes16_calls _).mono ?_); rintro e w8 ⟨rfl, hbel8⟩)
    go_ret
    exact ⟨rfl, hb0.trans (hbel8.mono hb0.size)⟩
end Go.Proofs.Ytokkidelbbegjaa
