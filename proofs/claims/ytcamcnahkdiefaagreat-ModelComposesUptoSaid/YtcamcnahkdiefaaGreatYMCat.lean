/- Several texts of mine in one file. -/
import Derived.Test.YtcamcnahkdiefaaGreatYMCas
import Derived.Test.YtcamcnahkdiefaaGreatYMCao
/- Chapter 24: the page's example, walked. -/
namespace Go.Proofs.YtcamcnahkdiefaaGreat
set_option linter.unusedVariables false
set_option linter.unusedSimpArgs false
open Go.RowKit
theorem ex24_MG (a xa ta : Option Addr) (W : World) (h1 : At W a exMP.flat) (h2 : At W xa [(5 : UInt64)]) (h3 : At W ta [(3 : UInt64)]) :
    Calls Tryz.prog 25 #[.agg #[.int .i64 3, .slice a 1 1], .agg #[.int .i64 2, .slice none 0 0], .slice xa 1 1, .slice ta 1 1, .int .i64 4] W fun e w' => ∃ a1 c1 a2 c2, e = .returned (.tuple #[.agg #[.int .u64 405, .slice a1 1 c1, .slice a2 1 c2], .int .i64 0]) ∧ At w' a1 [(81 : UInt64)] ∧ At w' a2 [(540 : UInt64)] ∧ Below W.heap.size W w' := by
  have h := MGrad_calls (ex24 a) [5] 1 1 rfl rfl rfl (by decide) (by decide) 4 xa 1 ta 1 W h2 h3 h1 (by show 1 ≤ 1000000; decide) (At.nil _ _) (by show 0 ≤ 1000000; decide)
  obtain ⟨e1, e2, e3⟩ := ex24_grad a
  rw [e1, e2, e3, ex24_may] at h
  refine h.mono ?_
  rintro e w' ⟨a1, n1, c1, a2, n2, c2, rfl, hn1, hn2, hX, hT, hb⟩
  subst hn1 hn2
  exact ⟨a1, c1, a2, c2, rfl, hX.at_, hT.at_, hb⟩
theorem ex24_MA (a xa ta : Option Addr) (W : World) (h1 : At W a exMP.flat) (h2 : At W xa [(5 : UInt64)]) (h3 : At W ta [(3 : UInt64)]) :
    Calls Tryz.prog 23 #[.agg #[.int .i64 3, .slice a 1 1], .agg #[.int .i64 2, .slice none 0 0], .slice xa 1 1, .slice ta 1 1, .int .i64 4, .int .i64 1] W fun e w' => e = .returned (.tuple #[.int .u64 405, .int .u64 540, .int .i64 0]) ∧ Below W.heap.size W w' :=
  MAlong_calls (ex24 a) [5] 1 1 rfl rfl rfl (by decide) (by decide) 4 1 xa 1 ta 1 W h2 h3 h1 (by show 1 ≤ 1000000; decide) (At.nil _ _) (by show 0 ≤ 1000000; decide) 405 540 0 (ex24_al a).1 (ex24_al a).2
theorem ex24_MC (a : Option Addr) (W : World) (h1 : At W a exMP.flat) :
    Calls Tryz.prog 29 #[.agg #[.int .i64 3, .slice a 1 1], .agg #[.int .i64 2, .slice none 0 0], .int .i64 1, .int .i64 1, .int .i64 4] W fun e w' => ∃ a1 c1, e = .returned (.tuple #[.agg #[.int .i64 2, .slice a1 1 c1], .int .i64 0]) ∧ Below W.heap.size W w' := by
  refine (MComp_calls ⟨3, a, 1, exMP.flat⟩ ⟨2, none, 0, []⟩ 1 1 4 W h1 (by show 1 ≤ 1000000; decide) (At.nil _ _) (by show 0 ≤ 1000000; decide) (by decide) 0 [(1, [1, 4])] (exC_comp a) 2 rfl).mono ?_
  rintro e w' ⟨a1, n1, c1, rfl, hT, hb⟩
  obtain rfl : n1 = 1 := hT.len
  exact ⟨a1, c1, rfl, hb⟩
theorem ex24_same (a1 a2 b1 b2 : Option Addr) (c1 c2 : Nat) (W : World) (h1 : At W a1 [(81 : UInt64)]) (h2 : At W a2 [(540 : UInt64)]) (h3 : At W b1 [(81 : UInt64)]) (h4 : At W b2 [(540 : UInt64)]) :
    Calls Tryz.prog 27 #[.agg #[.int .u64 405, .slice a1 1 c1, .slice a2 1 c2], .agg #[.int .u64 405, .slice b1 1 1, .slice b2 1 1]] W fun e w' => e = .returned (.bool true) ∧ Below W.heap.size W w' :=
  Same24_calls 405 [81] [540] a1 a2 b1 b2 1 1 1 1 c1 c2 1 1 rfl rfl rfl rfl W h1 h2 h3 h4 (by decide) (by decide)
theorem two_words (W : World) (n : Nat) (hn : W.heap.size = n) (u v : UInt64) : At ((W.alloc (.cells #[.int .u64 (u.toNat : Int)] 50)).alloc (.cells #[.int .u64 (v.toNat : Int)] 50)) (some ⟨n, 0, none⟩) [u] ∧ At ((W.alloc (.cells #[.int .u64 (u.toNat : Int)] 50)).alloc (.cells #[.int .u64 (v.toNat : Int)] 50)) (some ⟨n + 1, 0, none⟩) [v] ∧ Below W.heap.size W ((W.alloc (.cells #[.int .u64 (u.toNat : Int)] 50)).alloc (.cells #[.int .u64 (v.toNat : Int)] 50)) := by
  subst hn
  have b1 := (Blk.new W 50 #[.int .u64 (u.toNat : Int)]).alloc (.cells #[.int .u64 (v.toNat : Int)] 50)
  have b2 := Blk.new (W.alloc (.cells #[.int .u64 (u.toNat : Int)] 50)) 50 #[.int .u64 (v.toNat : Int)]
  rw [World.size_alloc] at b2
  exact ⟨At.ofBlk b1 _ rfl, At.ofBlk b2 _ rfl, (below_box W _).alloc (by simp) _⟩
theorem ex24_ws (W : World) (n : Nat) (hn : W.heap.size = n) : At ((W.alloc (.cells #[.int .u64 5] 50)).alloc (.cells #[.int .u64 3] 50)) (some ⟨n, 0, none⟩) [(5 : UInt64)] ∧ At ((W.alloc (.cells #[.int .u64 5] 50)).alloc (.cells #[.int .u64 3] 50)) (some ⟨n + 1, 0, none⟩) [(3 : UInt64)] ∧ Below W.heap.size W ((W.alloc (.cells #[.int .u64 5] 50)).alloc (.cells #[.int .u64 3] 50)) := two_words W n hn 5 3
theorem ex24_us (W : World) (n : Nat) (hn : W.heap.size = n) : At ((W.alloc (.cells #[.int .u64 81] 50)).alloc (.cells #[.int .u64 540] 50)) (some ⟨n, 0, none⟩) [(81 : UInt64)] ∧ At ((W.alloc (.cells #[.int .u64 81] 50)).alloc (.cells #[.int .u64 540] 50)) (some ⟨n + 1, 0, none⟩) [(540 : UInt64)] ∧ Below W.heap.size W ((W.alloc (.cells #[.int .u64 81] 50)).alloc (.cells #[.int .u64 540] 50)) := two_words W n hn 81 540
set_option maxRecDepth 100000 in
set_option maxHeartbeats 6400000 in
theorem goes24_calls (w : World) : Calls Tryz.prog 22 #[] w fun v w' => v = .returned (.bool true) ∧ Below w.heap.size w w' := by
  obtain ⟨hO, hX, hY, hb0, hz0⟩ := three_boxes w 89 24 24 #[.int .i64 3, .int .i64 0, .int .i64 0, .int .i64 1, .int .u64 0] #[.int .i64 3, .slice (some ⟨w.heap.size, 0, none⟩) 1 1] #[.int .i64 2, .slice none 0 0]
  have hat : At (((w.alloc (.cells #[.int .i64 3, .int .i64 0, .int .i64 0, .int .i64 1, .int .u64 0] 89)).alloc (.cells #[.int .i64 3, .slice (some ⟨w.heap.size, 0, none⟩) 1 1] 24)).alloc (.cells #[.int .i64 2, .slice none 0 0] 24)) (some ⟨w.heap.size, 0, none⟩) exMP.flat := At.ofBlk hO _ rfl
  have HA := hide hat
  have HX := hide hX
  have HY := hide hY
  have HB0 := hide hb0
  have HZ := hide hz0
  obtain ⟨p0, p1, p2, p3⟩ := hX.c2
  obtain ⟨p4, p5, p6, p7⟩ := hY.c2
  clear hat hO hX hY hb0 hz0
  go_enter Tryz.func22, Tryz.ntmps22
  go_wp2_with (first
    | (go_at_call 27; go_must ((with_reducible refine (ex24_same a1 a2 _ _ c1 c2 _ ((hg13.belowN (below_box w3 _)).belowN (ex24_us _ _ (World.size_alloc _ _)).2.2) ((hg23.belowN (below_box w3 _)).belowN (ex24_us _ _ (World.size_alloc _ _)).2.2) (ex24_us _ _ (World.size_alloc _ _)).1 (ex24_us _ _ (World.size_alloc _ _)).2.1).mono ?_); rintro e w4 ⟨rfl, hb4⟩; have hN4 := (hN3.belowN (ex24_us _ _ (World.size_alloc _ _)).2.2).belowN hb4; obtain ⟨n4, n5, n6, n7⟩ := hN4.c2))
    | (go_at_call 29; go_must ((with_reducible refine (ex24_MC _ _ (HA.out.belowN hB2)).mono ?_); rintro e w3 ⟨a3, c3, rfl, hb3⟩; have hR3 := (hR2.belowN hb3).alloc (.cells #[.int .i64 2, .slice a3 1 c3] 42); have hN3 := Blk.new w3 42 #[.int .i64 2, .slice a3 1 c3]; obtain ⟨r0, r1, r2, r3, r4, r5⟩ := hR3.c3; obtain ⟨n0, n1, n2, n3⟩ := hN3.c2; have hg13 := hg12.belowN hb3; have hg23 := hg22.belowN hb3; have hB3 := hB2.trans (hb3.mono hB2.size)))
    | (go_at_call 23; go_must ((with_reducible refine (ex24_MA _ _ _ _ (HA.out.belowN (hBr.trans ((ex24_ws _ _ (World.size_alloc _ _)).2.2.mono hBr.size))) (ex24_ws _ _ (World.size_alloc _ _)).1 (ex24_ws _ _ (World.size_alloc _ _)).2.1).mono ?_); rintro e w2 ⟨rfl, hb2⟩; have hBs := hBr.trans ((ex24_ws (w1.alloc (.cells #[.int .u64 405, .slice a1 1 c1, .slice a2 1 c2] 56)) _ (World.size_alloc _ _)).2.2.mono hBr.size); have hB2 := hBs.trans (hb2.mono hBs.size); have hR2 := (hR1.belowN (ex24_ws (w1.alloc (.cells #[.int .u64 405, .slice a1 1 c1, .slice a2 1 c2] 56)) _ (World.size_alloc _ _)).2.2).belowN hb2; have hg12 := ((hg1.belowN (below_box w1 (.cells #[.int .u64 405, .slice a1 1 c1, .slice a2 1 c2] 56))).belowN (ex24_ws (w1.alloc (.cells #[.int .u64 405, .slice a1 1 c1, .slice a2 1 c2] 56)) _ (World.size_alloc _ _)).2.2).belowN hb2; have hg22 := ((hg2.belowN (below_box w1 (.cells #[.int .u64 405, .slice a1 1 c1, .slice a2 1 c2] 56))).belowN (ex24_ws (w1.alloc (.cells #[.int .u64 405, .slice a1 1 c1, .slice a2 1 c2] 56)) _ (World.size_alloc _ _)).2.2).belowN hb2; obtain ⟨q0, q1, q2, q3⟩ := (HX.out.belowN hB2).c2; obtain ⟨q4, q5, q6, q7⟩ := (HY.out.belowN hB2).c2))
    | (go_at_call 25; go_must ((with_reducible refine (ex24_MG _ _ _ _ (HA.out.belowN (ex24_ws _ _ HZ.out).2.2) (ex24_ws _ _ HZ.out).1 (ex24_ws _ _ HZ.out).2.1).mono ?_); rintro e w1 ⟨a1, c1, a2, c2, rfl, hg1, hg2, hb1⟩; have hB1 := (ex24_ws _ _ HZ.out).2.2.trans (hb1.mono (ex24_ws _ _ HZ.out).2.2.size); have hBr := hB1.trans ((below_box w1 (.cells #[.int .u64 405, .slice a1 1 c1, .slice a2 1 c2] 56)).mono hB1.size); have hR1 := Blk.new w1 56 #[.int .u64 405, .slice a1 1 c1, .slice a2 1 c2]; obtain ⟨q0, q1, q2, q3⟩ := (HX.out.belowN hBr).c2; obtain ⟨q4, q5, q6, q7⟩ := (HY.out.belowN hBr).c2)))
  go_ret
  have hBf := hB3.trans ((((below_box w3 (.cells #[.int .i64 2, .slice a3 1 c3] 42)).trans ((ex24_us _ _ (World.size_alloc _ _)).2.2.mono (by simp))).trans (hb4.mono (by have := (ex24_us (w3.alloc (.cells #[.int .i64 2, .slice a3 1 c3] 42)) _ (World.size_alloc _ _)).2.2.size; simp at this ⊢; omega))).mono hB3.size)
  exact ⟨rfl, HB0.out.trans (hBf.mono HB0.out.size)⟩
end Go.Proofs.YtcamcnahkdiefaaGreat

/- Chapter 24: a chain's loss as a polynomial is one that may be; the law ModelComposes, walked. -/
namespace Go.Proofs.YtcamcnahkdiefaaGreat
set_option linter.unusedVariables false
set_option linter.unusedSimpArgs false
open Go.RowKit
theorem At.nil_of {w : World} {a : Option Addr} {l : List UInt64} (h : At w a l) (e : a = none) : l = [] := by
  cases l with
  | nil => rfl
  | cons y r =>
    obtain ⟨b, off, e', _⟩ := h 0 y rfl
    rw [e] at e'
    cases e'
theorem fullS_ge (regs va t : Int) (now fixed : List (List Tm)) : now.length ≤ (fullS regs va t now fixed).length := by
  unfold fullS
  simp only [List.length_append]
  omega
theorem ChD.iterC_fine (c : ChD) (xn tn : Nat) (h64 : xn + tn ≤ 64) (hx : 1 ≤ xn) : ∀ t, (c.iterC xn (xn + tn) t).1 = 0 → (c.iterC xn (xn + tn) t).2.length = xn ∧ AllP ((xn + tn : Nat) : Int) (c.iterC xn (xn + tn) t).2
  | 0, _ => by
    show ((startP (xn + tn)).take xn).length = xn ∧ AllP _ ((startP (xn + tn)).take xn)
    exact ⟨by rw [List.length_take, startP_len]; omega, fun M hM => startP_all h64 M (List.mem_of_mem_take hM)⟩
  | t + 1, h => by
    by_cases h0 : (c.iterC xn (xn + tn) t).1 = 0
    · obtain ⟨h1, h2⟩ := ChD.iterC_fine c xn tn h64 hx t h0
      obtain ⟨⟨E, R⟩, hR⟩ : ∃ s, runC c.p ((xn + tn : Nat) : Int) (t : Int) (c.iterC xn (xn + tn) t).2 ((startP (xn + tn)).drop xn) = s := ⟨_, rfl⟩
      have hs := c.iterC_succ xn (xn + tn) t h0 hR
      rw [hs] at h ⊢
      simp only at h
      subst h
      rw [if_pos rfl]
      have hA := runC_all h64 h2 (fun M hM => startP_all h64 M (List.mem_of_mem_drop hM)) (by omega) hR
      have hl := runC_len hR
      have hg := fullS_ge c.p.regs ((xn + tn : Nat) : Int) (t : Int) (c.iterC xn (xn + tn) t).2 ((startP (xn + tn)).drop xn)
      exact ⟨by simp only [List.length_take]; omega, fun M hM => hA M (List.mem_of_mem_take hM)⟩
    · exfalso
      have := c.iterC_stay xn (xn + tn) t h0 1
      rw [this] at h
      exact h0 h
theorem ChD.compC_fine (c : ChD) (xn tn l : Nat) (h64 : xn + tn ≤ 64) (hx : 1 ≤ xn) {E : Int} {L : List Tm} (h : c.compC xn (xn + tn) l = (E, L)) : (E = 0 → checkP ((xn + tn : Nat) : Int) L = true) ∧ (E ≠ 0 → L = []) := by
  by_cases h0 : (c.iterC xn (xn + tn) l).1 = 0
  · obtain ⟨h1, h2⟩ := c.iterC_fine xn tn h64 hx l h0
    obtain ⟨⟨E', R⟩, hR⟩ : ∃ s, runC c.q ((xn + tn : Nat) : Int) (-1) (c.iterC xn (xn + tn) l).2 ((startP (xn + tn)).drop xn) = s := ⟨_, rfl⟩
    rw [c.compC_end xn (xn + tn) l h0 hR] at h
    injection h with e1 e2
    subst e1
    have hA := runC_all h64 h2 (fun M hM => startP_all h64 M (List.mem_of_mem_drop hM)) (by omega) hR
    refine ⟨fun h3 => ?_, fun h3 => ?_⟩
    · subst h3
      rw [if_pos rfl] at e2
      have hl := runC_len hR
      have hg := fullS_ge c.q.regs ((xn + tn : Nat) : Int) (-1) (c.iterC xn (xn + tn) l).2 ((startP (xn + tn)).drop xn)
      cases R with
      | nil =>
        exfalso
        have hl2 : 0 = _ := hl
        omega
      | cons r R => exact hA L (by rw [← e2]; simp)
    · rw [if_neg h3] at e2
      exact e2.symm
  · unfold ChD.compC at h
    rw [if_pos h0] at h
    injection h with e1 e2
    exact ⟨fun h3 => absurd (e1.trans h3) h0, fun _ => e2.symm⟩
theorem compS_fine {p q : PrD} {x t l E : Int} {L : List Tm} (h : compS p q x t l = (E, L)) : (E = 0 → checkP (x + t) L = true) ∧ (E ≠ 0 → L = []) := by
  unfold compS at h
  split at h
  · rename_i h1
    injection h with e1 e2
    exact ⟨fun h3 => absurd (e1.trans h3) h1, fun _ => e2.symm⟩
  · split at h
    · rename_i h1
      injection h with e1 e2
      exact ⟨fun h3 => absurd (e1.trans h3) h1, fun _ => e2.symm⟩
    · rename_i h1
      split at h
      · injection h with e1 e2
        exact ⟨fun h3 => by rw [← e1] at h3; exact absurd h3 (by decide), fun _ => e2.symm⟩
      · obtain ⟨a1, a2, a3, a4, a5, a6⟩ := dimsC_zero (Decidable.not_not.1 h1)
        rename_i h0 _
        have hO := mkC_ok (x := x) (t := t) (Decidable.not_not.1 h0) (Decidable.not_not.1 h1)
        obtain ⟨f, _, g⟩ := hO.hp
        have g2 : p.regs ≤ 64 := g.r2
        have h2 := (mkC p q x t).compC_fine x.toNat t.toNat l.toNat (by omega) (by omega) h
        rw [show ((x.toNat + t.toNat : Nat) : Int) = x + t by omega] at h2
        exact h2
theorem compS_len {p q : PrD} {x t l E : Int} {L : List Tm} (h : compS p q x t l = (E, L)) : L.length ≤ 1000000 ∧ ∀ t ∈ L, t.2.length ≤ 1000000 := by
  obtain ⟨h1, h2⟩ := compS_fine h
  by_cases h0 : E = 0
  · exact checkP_len (h1 h0)
  · rw [h2 h0]
    exact ⟨by simp, fun t ht => by simp at ht⟩
set_option maxRecDepth 100000 in
set_option maxHeartbeats 6400000 in
theorem ModelComposes_calls (c : ChD) (ta : Option Addr) (tc : Nat) (hta : ta = none → c.th = []) (t l : Int) (w : World) (h : At w c.p.a c.p.l) (h' : At w c.q.a c.q.l) (hl : c.p.l.length ≤ 1000000) (hl' : c.q.l.length ≤ 1000000) (hx : -9223372036854775808 ≤ c.x ∧ c.x ≤ 9223372036854775807) (ht : -9223372036854775808 ≤ t ∧ t ≤ 9223372036854775807) :
    Calls Tryz.prog 6 #[.agg #[.int .i64 c.p.regs, .slice c.p.a c.p.l.length c.p.c, .int .i64 c.q.regs, .slice c.q.a c.q.l.length c.q.c, .int .i64 c.x, .slice ta c.th.length tc], .int .i64 t, .int .i64 l] w fun e w' => e = .returned (.bool true) ∧ Below w.heap.size w w' := by
  have hb0 := below_new w (.cells #[.int .i64 c.p.regs, .slice c.p.a c.p.l.length c.p.c, .int .i64 c.q.regs, .slice c.q.a c.q.l.length c.q.c, .int .i64 c.x, .slice ta c.th.length tc] 48)
  have hX := Blk.new w 48 #[.int .i64 c.p.regs, .slice c.p.a c.p.l.length c.p.c, .int .i64 c.q.regs, .slice c.q.a c.q.l.length c.q.c, .int .i64 c.x, .slice ta c.th.length tc]
  have h1 := h.belowN hb0
  have h2 := h'.belowN hb0
  cases hs : lightB c l with
  | false =>
    · have HS := hide hs
      clear hs
      go_enter Tryz.func6, Tryz.ntmps6
      go_wp2_with (first
        | (go_at_call 28; go_must ((with_reducible refine (Light24_calls c ta tc hta l false HS.out _ h1 h2 hl hl' _ _ _ _ rfl rfl rfl rfl).mono ?_); rintro e w1 ⟨rfl, hb1⟩; have hB1 := hb0.trans (hb1.mono hb0.size); have hz1 := hB1.size))
        | (go_at_call 22; (with_reducible refine (goes24_calls _).mono ?_); rintro e w8 ⟨rfl, hbel8⟩))
      go_ret
      exact ⟨rfl, hB1.trans (hbel8.mono hz1)⟩
  | true =>
    have HS := hide hs
    clear hs
    by_cases hlt : 3 < t ∧ t ≤ 64
    · obtain ⟨l1, l2⟩ := hlt
      go_enter Tryz.func6, Tryz.ntmps6
      go_wp2_with (first
        | (go_at_call 28; go_must ((with_reducible refine (Light24_calls c ta tc hta l true HS.out _ h1 h2 hl hl' _ _ _ _ rfl rfl rfl rfl).mono ?_); rintro e w1 ⟨rfl, hb1⟩; have hB1 := hb0.trans (hb1.mono hb0.size); have hz1 := hB1.size))
        | (go_at_call 22; (with_reducible refine (goes24_calls _).mono ?_); rintro e w8 ⟨rfl, hbel8⟩))
      go_ret
      exact ⟨rfl, hB1.trans (hbel8.mono hz1)⟩
    obtain ⟨⟨E, L⟩, hC⟩ : ∃ s, compS c.p c.q c.x t l = s := ⟨_, rfl⟩
    obtain ⟨V, hV⟩ : ∃ V, (if E = 0 then c.x + t else 0) = V := ⟨_, rfl⟩
    obtain ⟨k1, k2⟩ := compS_len hC
    have HMC := hide (fun (W : World) (hW : Below w.heap.size w W) => MComp_calls c.p c.q c.x t l W (h.belowN hW) hl (h'.belowN hW) hl' hx E L hC V hV)
    have HRC := hide (fun (W : World) (hW : Below w.heap.size w W) => RComp_calls c.p c.q c.x t l W (h.belowN hW) hl (h'.belowN hW) hl' hx ht E L hC V hV)
    have hss : sameP V L V L = true := by unfold sameP; simp
    have hl1 : 3 < t → ¬ t ≤ 64 := fun h8 h9 => hlt ⟨h8, h9⟩
    have re : (E == E) = true := by simp
    clear hC hV hlt
    go_enter Tryz.func6, Tryz.ntmps6
    go_wp2_with (first
      | (go_at_call 28; go_must ((with_reducible refine (Light24_calls c ta tc hta l true HS.out _ h1 h2 hl hl' _ _ _ _ rfl rfl rfl rfl).mono ?_); rintro e w1 ⟨rfl, hb1⟩; have hB1 := hb0.trans (hb1.mono hb0.size); obtain ⟨p0, p1, p2, p3, p4, p5, p6, p7, p8, p9, p10, p11⟩ := (hX.belowN hb1).c6))
      | (go_at_call 29; go_must ((with_reducible refine (HMC.out _ hB1).mono ?_); rintro e w2 ⟨a1, n1, c1, rfl, hT1, hb2⟩; have hC2 := hb1.trans (hb2.mono hb1.size); have hbx := below_box w2 (.cells #[.int .i64 V, .slice a1 n1 c1] 42); have hD2 := hC2.trans (hbx.mono hC2.size); have hB2 := hb0.trans (hD2.mono hb0.size); have hT2 := hT1.belowN hbx; have hR2 := Blk.new w2 42 #[.int .i64 V, .slice a1 n1 c1]; obtain ⟨q0, q1, q2, q3, q4, q5, q6, q7, q8, q9, q10, q11⟩ := (hX.belowN hD2).c6))
      | (go_at_call 30; go_must ((with_reducible refine (HRC.out _ hB2).mono ?_); rintro e w3 ⟨a3, n3, c3, rfl, hT3, hb3⟩; have hC3 := hD2.trans (hb3.mono hD2.size); have hby := below_box w3 (.cells #[.int .i64 V, .slice a3 n3 c3] 42); have hD3 := hC3.trans (hby.mono hC3.size); have hB3 := hb0.trans (hD3.mono hb0.size); have hR3 := (hR2.belowN hb3).belowN hby; have hS3 := Blk.new w3 42 #[.int .i64 V, .slice a3 n3 c3]; obtain ⟨x0, x1, x2, x3⟩ := hR3.c2; obtain ⟨y0, y1, y2, y3⟩ := hS3.c2; have hA1 := ((hT2.belowN hb3).belowN hby).at_.at_; have hA3 := (hT3.belowN hby).at_.at_; have HL1 := hide hT1.len; have HL3 := hide hT3.len))
      | (go_at_call 31; go_must ((with_reducible refine (RSame_calls V V a1 a3 n1 n3 c1 c3 L L HL1.out HL3.out _ hA1 hA3 (by rw [HL1.out]; exact k1) k2 true hss).mono ?_); rintro e w6 ⟨rfl, hb6⟩; have hB6 := hB3.trans (hb6.mono hB3.size)))
      | (go_at_call 22; (with_reducible refine (goes24_calls _).mono ?_); rintro e w8 ⟨rfl, hbel8⟩))
    all_goals
      go_ret
      exact ⟨rfl, hB6.trans (hbel8.mono hB6.size)⟩
end Go.Proofs.YtcamcnahkdiefaaGreat
