/- Several texts of mine in one file. -/
import Derived.Test.YtcamcnahkdiefaaGreatYMNaq
import Derived.Test.YtcamcnahkdiefaaGreatYMNak
/- Chapter 24: the page's example, walked. -/
namespace Go.Proofs.YtcamcnahkdiefaaGreat
set_option linter.unusedVariables false
set_option linter.unusedSimpArgs false
open Go.RowKit
theorem ex24_MG (a xa ta : Option Addr) (W : World) (h1 : At W a exMP.flat) (h2 : At W xa [(5 : UInt64)]) (h3 : At W ta [(3 : UInt64)]) :
    Calls Tryz.prog 25 #[.agg #[.int .i64 3, .slice a 1 1], .agg #[.int .i64 2, .slice none 0 0], .slice xa 1 1, .slice ta 1 1, .int .i64 4] W fun e w' => ∃ a1 c1 a2 c2, e = .returned (.tuple #[.agg #[.int .u64 405, .slice a1 1 c1, .slice a2 1 c2], .int .i64 0]) ∧ At w' a1 [(81 : UInt64)] ∧ At w' a2 [(540 : UInt64)] ∧ Below W.heap.size W w' := by
  have h := MGrad_calls (ex24 a) [5] 1 1 rfl rfl rfl (by decide) (by decide) 4 xa 1 ta 1 W h2 h3 h1 (by show 1 ≤ 1000000; decide) (At.nil _ _) (by show 0 ≤ 1000000; decide)
  obtain ⟨e1, e2, e3⟩ := ex24_grad a
  rw [e1, e2, e3, ex24_may] at h
  refine h.mono ?_
  rintro e w' ⟨a1, n1, c1, a2, n2, c2, rfl, hn1, hn2, hX, hT, hb⟩
  subst hn1 hn2
  exact ⟨a1, c1, a2, c2, rfl, hX.at_, hT.at_, hb⟩
theorem ex24_MA (a xa ta : Option Addr) (W : World) (h1 : At W a exMP.flat) (h2 : At W xa [(5 : UInt64)]) (h3 : At W ta [(3 : UInt64)]) :
    Calls Tryz.prog 23 #[.agg #[.int .i64 3, .slice a 1 1], .agg #[.int .i64 2, .slice none 0 0], .slice xa 1 1, .slice ta 1 1, .int .i64 4, .int .i64 1] W fun e w' => e = .returned (.tuple #[.int .u64 405, .int .u64 540, .int .i64 0]) ∧ Below W.heap.size W w' :=
  MAlong_calls (ex24 a) [5] 1 1 rfl rfl rfl (by decide) (by decide) 4 1 xa 1 ta 1 W h2 h3 h1 (by show 1 ≤ 1000000; decide) (At.nil _ _) (by show 0 ≤ 1000000; decide) 405 540 0 (ex24_al a).1 (ex24_al a).2
theorem ex24_MC (a : Option Addr) (W : World) (h1 : At W a exMP.flat) :
    Calls Tryz.prog 29 #[.agg #[.int .i64 3, .slice a 1 1], .agg #[.int .i64 2, .slice none 0 0], .int .i64 1, .int .i64 1, .int .i64 4] W fun e w' => ∃ a1 c1, e = .returned (.tuple #[.agg #[.int .i64 2, .slice a1 1 c1], .int .i64 0]) ∧ Below W.heap.size W w' := by
  refine (MComp_calls ⟨3, a, 1, exMP.flat⟩ ⟨2, none, 0, []⟩ 1 1 4 W h1 (by show 1 ≤ 1000000; decide) (At.nil _ _) (by show 0 ≤ 1000000; decide) (by decide) 0 [(1, [1, 4])] (exC_comp a) 2 rfl).mono ?_
  rintro e w' ⟨a1, n1, c1, rfl, hT, hb⟩
  obtain rfl : n1 = 1 := hT.len
  exact ⟨a1, c1, rfl, hb⟩
theorem ex24_same (a1 a2 b1 b2 : Option Addr) (c1 c2 : Nat) (W : World) (h1 : At W a1 [(81 : UInt64)]) (h2 : At W a2 [(540 : UInt64)]) (h3 : At W b1 [(81 : UInt64)]) (h4 : At W b2 [(540 : UInt64)]) :
    Calls Tryz.prog 27 #[.agg #[.int .u64 405, .slice a1 1 c1, .slice a2 1 c2], .agg #[.int .u64 405, .slice b1 1 1, .slice b2 1 1]] W fun e w' => e = .returned (.bool true) ∧ Below W.heap.size W w' :=
  Same24_calls 405 [81] [540] a1 a2 b1 b2 1 1 1 1 c1 c2 1 1 rfl rfl rfl rfl W h1 h2 h3 h4 (by decide) (by decide)
theorem two_words (W : World) (n : Nat) (hn : W.heap.size = n) (u v : UInt64) : At ((W.alloc (.cells #[.int .u64 (u.toNat : Int)] 50)).alloc (.cells #[.int .u64 (v.toNat : Int)] 50)) (some ⟨n, 0, none⟩) [u] ∧ At ((W.alloc (.cells #[.int .u64 (u.toNat : Int)] 50)).alloc (.cells #[.int .u64 (v.toNat : Int)] 50)) (some ⟨n + 1, 0, none⟩) [v] ∧ Below W.heap.size W ((W.alloc (.cells #[.int .u64 (u.toNat : Int)] 50)).alloc (.cells #[.int .u64 (v.toNat : Int)] 50)) := by
  subst hn
  have b1 := (Blk.new W 50 #[.int .u64 (u.toNat : Int)]).alloc (.cells #[.int .u64 (v.toNat : Int)] 50)
  have b2 := Blk.new (W.alloc (.cells #[.int .u64 (u.toNat : Int)] 50)) 50 #[.int .u64 (v.toNat : Int)]
  rw [World.size_alloc] at b2
  exact ⟨At.ofBlk b1 _ rfl, At.ofBlk b2 _ rfl, (below_box W _).alloc (by simp) _⟩
theorem ex24_ws (W : World) (n : Nat) (hn : W.heap.size = n) : At ((W.alloc (.cells #[.int .u64 5] 50)).alloc (.cells #[.int .u64 3] 50)) (some ⟨n, 0, none⟩) [(5 : UInt64)] ∧ At ((W.alloc (.cells #[.int .u64 5] 50)).alloc (.cells #[.int .u64 3] 50)) (some ⟨n + 1, 0, none⟩) [(3 : UInt64)] ∧ Below W.heap.size W ((W.alloc (.cells #[.int .u64 5] 50)).alloc (.cells #[.int .u64 3] 50)) := two_words W n hn 5 3
theorem ex24_us (W : World) (n : Nat) (hn : W.heap.size = n) : At ((W.alloc (.cells #[.int .u64 81] 50)).alloc (.cells #[.int .u64 540] 50)) (some ⟨n, 0, none⟩) [(81 : UInt64)] ∧ At ((W.alloc (.cells #[.int .u64 81] 50)).alloc (.cells #[.int .u64 540] 50)) (some ⟨n + 1, 0, none⟩) [(540 : UInt64)] ∧ Below W.heap.size W ((W.alloc (.cells #[.int .u64 81] 50)).alloc (.cells #[.int .u64 540] 50)) := two_words W n hn 81 540
set_option maxRecDepth 100000 in
set_option maxHeartbeats 6400000 in
theorem goes24_calls (w : World) : Calls Tryz.prog 22 #[] w fun v w' => v = .returned (.bool true) ∧ Below w.heap.size w w' := by
  obtain ⟨hO, hX, hY, hb0, hz0⟩ := three_boxes w 89 24 24 #[.int .i64 3, .int .i64 0, .int .i64 0, .int .i64 1, .int .u64 0] #[.int .i64 3, .slice (some ⟨w.heap.size, 0, none⟩) 1 1] #[.int .i64 2, .slice none 0 0]
  have hat : At (((w.alloc (.cells #[.int .i64 3, .int .i64 0, .int .i64 0, .int .i64 1, .int .u64 0] 89)).alloc (.cells #[.int .i64 3, .slice (some ⟨w.heap.size, 0, none⟩) 1 1] 24)).alloc (.cells #[.int .i64 2, .slice none 0 0] 24)) (some ⟨w.heap.size, 0, none⟩) exMP.flat := At.ofBlk hO _ rfl
  have HA := hide hat
  have HX := hide hX
  have HY := hide hY
  have HB0 := hide hb0
  have HZ := hide hz0
  obtain ⟨p0, p1, p2, p3⟩ := hX.c2
  obtain ⟨p4, p5, p6, p7⟩ := hY.c2
  clear hat hO hX hY hb0 hz0
  go_enter Tryz.func22, Tryz.ntmps22
  go_wp2_with (first
    | (go_at_call 27; go_must ((with_reducible refine (ex24_same a1 a2 _ _ c1 c2 _ ((hg13.belowN (below_box w3 _)).belowN (ex24_us _ _ (World.size_alloc _ _)).2.2) ((hg23.belowN (below_box w3 _)).belowN (ex24_us _ _ (World.size_alloc _ _)).2.2) (ex24_us _ _ (World.size_alloc _ _)).1 (ex24_us _ _ (World.size_alloc _ _)).2.1).mono ?_); rintro e w4 ⟨rfl, hb4⟩; have hN4 := (hN3.belowN (ex24_us _ _ (World.size_alloc _ _)).2.2).belowN hb4; obtain ⟨n4, n5, n6, n7⟩ := hN4.c2))
    | (go_at_call 29; go_must ((with_reducible refine (ex24_MC _ _ (HA.out.belowN hB2)).mono ?_); rintro e w3 ⟨a3, c3, rfl, hb3⟩; have hR3 := (hR2.belowN hb3).alloc (.cells #[.int .i64 2, .slice a3 1 c3] 42); have hN3 := Blk.new w3 42 #[.int .i64 2, .slice a3 1 c3]; obtain ⟨r0, r1, r2, r3, r4, r5⟩ := hR3.c3; obtain ⟨n0, n1, n2, n3⟩ := hN3.c2; have hg13 := hg12.belowN hb3; have hg23 := hg22.belowN hb3; have hB3 := hB2.trans (hb3.mono hB2.size)))
    | (go_at_call 23; go_must ((with_reducible refine (ex24_MA _ _ _ _ (HA.out.belowN (hBr.trans ((ex24_ws _ _ (World.size_alloc _ _)).2.2.mono hBr.size))) (ex24_ws _ _ (World.size_alloc _ _)).1 (ex24_ws _ _ (World.size_alloc _ _)).2.1).mono ?_); rintro e w2 ⟨rfl, hb2⟩; have hBs := hBr.trans ((ex24_ws (w1.alloc (.cells #[.int .u64 405, .slice a1 1 c1, .slice a2 1 c2] 56)) _ (World.size_alloc _ _)).2.2.mono hBr.size); have hB2 := hBs.trans (hb2.mono hBs.size); have hR2 := (hR1.belowN (ex24_ws (w1.alloc (.cells #[.int .u64 405, .slice a1 1 c1, .slice a2 1 c2] 56)) _ (World.size_alloc _ _)).2.2).belowN hb2; have hg12 := ((hg1.belowN (below_box w1 (.cells #[.int .u64 405, .slice a1 1 c1, .slice a2 1 c2] 56))).belowN (ex24_ws (w1.alloc (.cells #[.int .u64 405, .slice a1 1 c1, .slice a2 1 c2] 56)) _ (World.size_alloc _ _)).2.2).belowN hb2; have hg22 := ((hg2.belowN (below_box w1 (.cells #[.int .u64 405, .slice a1 1 c1, .slice a2 1 c2] 56))).belowN (ex24_ws (w1.alloc (.cells #[.int .u64 405, .slice a1 1 c1, .slice a2 1 c2] 56)) _ (World.size_alloc _ _)).2.2).belowN hb2; obtain ⟨q0, q1, q2, q3⟩ := (HX.out.belowN hB2).c2; obtain ⟨q4, q5, q6, q7⟩ := (HY.out.belowN hB2).c2))
    | (go_at_call 25; go_must ((with_reducible refine (ex24_MG _ _ _ _ (HA.out.belowN (ex24_ws _ _ HZ.out).2.2) (ex24_ws _ _ HZ.out).1 (ex24_ws _ _ HZ.out).2.1).mono ?_); rintro e w1 ⟨a1, c1, a2, c2, rfl, hg1, hg2, hb1⟩; have hB1 := (ex24_ws _ _ HZ.out).2.2.trans (hb1.mono (ex24_ws _ _ HZ.out).2.2.size); have hBr := hB1.trans ((below_box w1 (.cells #[.int .u64 405, .slice a1 1 c1, .slice a2 1 c2] 56)).mono hB1.size); have hR1 := Blk.new w1 56 #[.int .u64 405, .slice a1 1 c1, .slice a2 1 c2]; obtain ⟨q0, q1, q2, q3⟩ := (HX.out.belowN hBr).c2; obtain ⟨q4, q5, q6, q7⟩ := (HY.out.belowN hBr).c2)))
  go_ret
  have hBf := hB3.trans ((((below_box w3 (.cells #[.int .i64 2, .slice a3 1 c3] 42)).trans ((ex24_us _ _ (World.size_alloc _ _)).2.2.mono (by simp))).trans (hb4.mono (by have := (ex24_us (w3.alloc (.cells #[.int .i64 2, .slice a3 1 c3] 42)) _ (World.size_alloc _ _)).2.2.size; simp at this ⊢; omega))).mono hB3.size)
  exact ⟨rfl, HB0.out.trans (hBf.mono HB0.out.size)⟩
end Go.Proofs.YtcamcnahkdiefaaGreat

/- Chapter 24: the law ModelNone, walked. -/
namespace Go.Proofs.YtcamcnahkdiefaaGreat
set_option linter.unusedVariables false
set_option linter.unusedSimpArgs false
open Go.RowKit
theorem none_may (c : ChD) (h : c.bad = 0) {l : Int} (h0 : 0 ≤ l) (h1 : l < 65536) : c.mayM l = 0 := by
  unfold ChD.mayM
  rw [if_neg (by simpa using h), if_neg (by omega)]
theorem addL_get {a b : List UInt64} {i : Nat} {x y : UInt64} (h1 : a[i]? = some x) (h2 : b[i]? = some y) : (addL a b)[i]? = some (x + y) := by
  unfold addL
  rw [List.getElem?_zipWith, h1, h2]
theorem Same23B (a b : Option Addr) (ca cb n : Nat) (l : List UInt64) (w : World) (hn : n = l.length) (h0 : At w a l) (h1 : At w b l) (hl : n ≤ 1000000) :
    Calls Tryz.prog 38 #[.slice a n ca, .slice b n cb] w fun e w' => e = .returned (.bool true) ∧ Below w.heap.size w w' := by
  refine (Same23 a b ca cb n l w hn h0 h1 hl).mono ?_
  rintro e w' ⟨rfl, q, rfl⟩
  exact ⟨rfl, below_drawn w w.heap.size q⟩
set_option maxRecDepth 100000 in
set_option maxHeartbeats 12800000 in
theorem ModelNone_calls (c : ChD) (ta : Option Addr) (tc : Nat) (a : Option Addr) (n k : Nat) (xs : List UInt64) (w : World) (h : At w c.p.a c.p.l) (h' : At w c.q.a c.q.l) (ht : At w ta c.th) (hat : At w a xs) (hn : n = xs.length) (hnk : n ≤ k) (hx : -9223372036854775808 ≤ c.x ∧ c.x ≤ 9223372036854775807) (hnb : n ≤ 9223372036854775807) :
    Calls Tryz.prog 9 #[.agg #[.int .i64 c.p.regs, .slice c.p.a c.p.l.length c.p.c, .int .i64 c.q.regs, .slice c.q.a c.q.l.length c.q.c, .int .i64 c.x, .slice ta c.th.length tc], .slice a n k] w fun e w' => e = .returned (.bool true) ∧ Below w.heap.size w w' := by
  have hb0 := below_new w (.cells #[.int .i64 c.p.regs, .slice c.p.a c.p.l.length c.p.c, .int .i64 c.q.regs, .slice c.q.a c.q.l.length c.q.c, .int .i64 c.x, .slice ta c.th.length tc] 48)
  have hX := Blk.new w 48 #[.int .i64 c.p.regs, .slice c.p.a c.p.l.length c.p.c, .int .i64 c.q.regs, .slice c.q.a c.q.l.length c.q.c, .int .i64 c.x, .slice ta c.th.length tc]
  have h1 := h.belowN hb0
  have h2 := h'.belowN hb0
  cases hs : smallC c 100 with
  | false =>
    · have HS := hide hs
      clear hs hn
      go_enter Tryz.func9, Tryz.ntmps9
      go_wp2_with (first
        | (go_at_call 21; go_must ((with_reducible refine (Small23_calls c ta tc _ false HS.out _ h1 h2).mono ?_); rintro e w1 ⟨rfl, hb1⟩; have hB1 := hb0.trans (hb1.mono hb0.size); have hz1 := hB1.size; obtain ⟨p0, p1, p2, p3, p4, p5, p6, p7, p8, p9, p10, p11⟩ := (hX.belowN hb1).c6))
        | (go_at_call 22; (with_reducible refine (goes24_calls _).mono ?_); rintro e w8 ⟨rfl, hbel8⟩))
      go_ret
      exact ⟨rfl, hB1.trans (hbel8.mono hz1)⟩
  | true =>
    obtain ⟨s1, s2, s3⟩ := small_lens hs
    have HS := hide hs
    have HN := hide hn
    clear hs hn
    by_cases hn1 : 100 < n
    · have u1 : (100 : Int) < (n : Int) := by omega
      go_enter Tryz.func9, Tryz.ntmps9
      go_wp2_with (first
        | (go_at_call 21; go_must ((with_reducible refine (Small23_calls c ta tc _ true HS.out _ h1 h2).mono ?_); rintro e w1 ⟨rfl, hb1⟩; have hB1 := hb0.trans (hb1.mono hb0.size); have hz1 := hB1.size; obtain ⟨p0, p1, p2, p3, p4, p5, p6, p7, p8, p9, p10, p11⟩ := (hX.belowN hb1).c6))
        | (go_at_call 22; (with_reducible refine (goes24_calls _).mono ?_); rintro e w8 ⟨rfl, hbel8⟩))
      go_ret
      exact ⟨rfl, hB1.trans (hbel8.mono hz1)⟩
    have u1 : ¬ (100 : Int) < (n : Int) := by omega
    obtain ⟨B, hB⟩ : ∃ B, c.bad = B := ⟨_, rfl⟩
    by_cases hB0 : B ≠ 0
    · have e1 : (B == 0) = false := by simpa using hB0
      have e2 : (B != 0) = true := by simpa using hB0
      have HNB := hide (fun (W : World) (hW : Below w.heap.size w W) => NewBad_calls c ta tc W (h.belowN hW) (by omega) (h'.belowN hW) (by omega) hx (by omega) B hB hB0)
      clear hB hB0
      go_enter Tryz.func9, Tryz.ntmps9
      go_wp2_with (first
        | (go_at_call 21; go_must ((with_reducible refine (Small23_calls c ta tc _ true HS.out _ h1 h2).mono ?_); rintro e w1 ⟨rfl, hb1⟩; have hB1 := hb0.trans (hb1.mono hb0.size); have hz1 := hB1.size; obtain ⟨p0, p1, p2, p3, p4, p5, p6, p7, p8, p9, p10, p11⟩ := (hX.belowN hb1).c6))
        | (go_at_call 36; go_must ((with_reducible refine (HNB.out _ hB1).mono ?_); rintro e w2 ⟨rfl, hb2⟩; have hB2 := hB1.trans (hb2.mono hz1); have hz2 := hB2.size))
        | (go_at_call 22; (with_reducible refine (goes24_calls _).mono ?_); rintro e w8 ⟨rfl, hbel8⟩))
      go_ret
      exact ⟨rfl, hB2.trans (hbel8.mono hz2)⟩
    have hbad : c.bad = 0 := hB.trans (Decidable.not_not.1 hB0)
    have HNG := hide (fun (W : World) (hW : Below w.heap.size w W) => NewGood_calls c ta tc W (h.belowN hW) (by omega) (h'.belowN hW) (by omega) (ht.belowN hW) hx (by omega) hbad)
    clear hB hB0
    by_cases hnx : ¬ (n : Int) = c.x
    · have v1 : ((n : Int) == c.x) = false := by simpa using hnx
      have v2 : ((n : Int) != c.x) = true := by simpa using hnx
      clear hnx hbad
      go_enter Tryz.func9, Tryz.ntmps9
      go_wp2_with (first
        | (go_at_call 21; go_must ((with_reducible refine (Small23_calls c ta tc _ true HS.out _ h1 h2).mono ?_); rintro e w1 ⟨rfl, hb1⟩; have hB1 := hb0.trans (hb1.mono hb0.size); have hz1 := hB1.size; obtain ⟨p0, p1, p2, p3, p4, p5, p6, p7, p8, p9, p10, p11⟩ := (hX.belowN hb1).c6))
        | (go_at_call 36; go_must ((with_reducible refine (HNG.out _ hB1).mono ?_); rintro e w2 ⟨g, rfl, hch, hg, hb2⟩; have hC2 := hb1.trans (hb2.mono hb1.size); have hB2 := hB1.trans (hb2.mono hz1); have hz2 := hB2.size; obtain ⟨q0, q1, q2, q3, q4, q5, q6, q7, q8, q9, q10, q11⟩ := (hX.belowN hC2).c6))
        | (go_at_call 22; (with_reducible refine (goes24_calls _).mono ?_); rintro e w8 ⟨rfl, hbel8⟩))
      go_ret
      exact ⟨rfl, hB2.trans (hbel8.mono hz2)⟩
    have hcx : c.x = (n : Int) := (Decidable.not_not.1 hnx).symm
    have hc := ChD.ok_of hbad
    have hxl : (xs.length : Int) = c.x := by rw [← HN.out, hcx]
    obtain ⟨tn, htn⟩ : ∃ tn, c.th.length = tn := ⟨_, rfl⟩
    have hn64 : n ≤ 64 := by have := hc.x2; omega
    have hn1' : 1 ≤ n := by have := hc.x1; omega
    have ht64 : tn ≤ 64 := by have := hc.t2; omega
    have m0 := none_may c hbad (l := 0) (by decide) (by decide)
    have m1 := none_may c hbad (l := 1) (by decide) (by decide)
    obtain ⟨g0a, g0b, g0c⟩ := c.grad_tail hxl m0
    obtain ⟨g1a, g1b, g1c⟩ := c.grad_tail hxl m1
    obtain ⟨R0, hR0⟩ : ∃ R, c.ploss xs = R := ⟨_, rfl⟩
    obtain ⟨Y, hY⟩ : ∃ R, c.step 0 xs = R := ⟨_, rfl⟩
    have hYl : Y.length = n := by have := c.step_length hc (t := 0) hxl; rw [hY] at this; omega
    obtain ⟨R1, hR1⟩ : ∃ R, c.ploss Y = R := ⟨_, rfl⟩
    obtain ⟨BX, hBX⟩ : ∃ R, R1.take n = R := ⟨_, rfl⟩
    obtain ⟨BT, hBT⟩ : ∃ R, (R1.drop n).take tn = R := ⟨_, rfl⟩
    obtain ⟨P, hP⟩ : ∃ R, c.pstep 0 xs BX = R := ⟨_, rfl⟩
    have hR0l : R0.length = c.q.regs.toNat := by rw [← hR0]; exact (c.ploss_run hc hxl).2
    have hR1l : R1.length = c.q.regs.toNat := by rw [← hR1]; exact (c.ploss_run hc (by omega)).2
    have hr2 := hc.r2
    have hr1 := hc.r1
    have hBXl : BX.length = n := by rw [← hBX, List.length_take]; omega
    have hBTl : BT.length = tn := by rw [← hBT, List.length_take, List.length_drop]; omega
    have hPl : P.length = c.p.regs.toNat := by rw [← hP]; exact (c.pstep_run hc (t := 0) (adj := BX) hxl (by omega)).2
    have e0 : c.tailA 0 0 xs = (R0.take n, (R0.drop n).take tn) := by
      unfold ChD.tailA
      rw [hR0, ← HN.out, htn]
    have e1 : c.tailA 1 0 xs = (P.take n, addL BT ((P.drop n).take tn)) := by
      have ez : c.tailA 0 1 (c.step 0 xs) = (BX, BT) := by
        unfold ChD.tailA
        rw [hY, hR1, hYl, htn, hBX, hBT]
      show ((c.pstep ((0 : Nat) : Int) xs (c.tailA 0 1 (c.step ((0 : Nat) : Int) xs)).1).take xs.length, addL (c.tailA 0 1 (c.step ((0 : Nat) : Int) xs)).2 (((c.pstep ((0 : Nat) : Int) xs (c.tailA 0 1 (c.step ((0 : Nat) : Int) xs)).1).drop xs.length).take c.th.length)) = _
      rw [show ((0 : Nat) : Int) = 0 from rfl, ez]
      simp only
      rw [hP, ← HN.out, htn]
    rw [show (0 : Int).toNat = 0 from rfl, e0] at g0b g0c
    rw [show (1 : Int).toNat = 1 from rfl, e1] at g1b g1c
    simp only at g0b g0c g1b g1c
    obtain ⟨G0, hG0⟩ : ∃ G, c.gV xs 0 = G := ⟨_, rfl⟩
    obtain ⟨G1, hG1⟩ : ∃ G, c.gV xs 1 = G := ⟨_, rfl⟩
    have HG0 := hide (fun (W : World) (hW : Below w.heap.size w W) => MGrad_calls c xs n c.th.length HN.out hcx rfl (by omega) (by omega) 0 a k ta tc W (hat.belowN hW) (ht.belowN hW) (h.belowN hW) (by omega) (h'.belowN hW) (by omega))
    have HG1 := hide (fun (W : World) (hW : Below w.heap.size w W) => MGrad_calls c xs n c.th.length HN.out hcx rfl (by omega) (by omega) 1 a k ta tc W (hat.belowN hW) (ht.belowN hW) (h.belowN hW) (by omega) (h'.belowN hW) (by omega))
    rw [hG0, g0b, g0c, m0, htn] at HG0
    rw [hG1, g1b, g1c, m1, htn] at HG1
    obtain ⟨DT, hDT⟩ : ∃ R, (P.drop n).take tn = R := ⟨_, rfl⟩
    have hDTl : DT.length = tn := by rw [← hDT, List.length_take, List.length_drop]; omega
    rw [hDT] at HG1
    have HPL := hide (fun (W : World) (g : Nat) (hch : ChAt W g c) (hW : Below w.heap.size w W) => PullLossGood_calls g c hc a n k xs W hch (hat.belowN hW) HN.out hnk hcx.symm R0 hR0 tn htn.symm)
    have HPY := hide (fun (W : World) (g : Nat) (hch : ChAt W g c) (y : Option Addr) (ky : Nat) (hky : n ≤ ky) (hy : At W y Y) => PullLossGood_calls g c hc y n ky Y W hch hy hYl.symm hky hcx.symm R1 hR1 tn htn.symm)
    unfold PartsOut at HPY
    rw [hBX, hBT] at HPY
    have HST := hide (fun (W : World) (g : Nat) (hch : ChAt W g c) (hW : Below w.heap.size w W) => StepGood_calls g c hc 0 a n k xs W hch (hat.belowN hW) HN.out hnk hcx.symm (by decide) Y hY)
    rw [show (((0 : UInt64).toNat : Nat) : Int) = 0 from rfl] at HST
    have HPS := hide (fun (W : World) (g : Nat) (hch : ChAt W g c) (hW : Below w.heap.size w W) (aa : Option Addr) (ka : Nat) (hA : At W aa BX) => PullStepGood_calls g c hc 0 a n k xs aa n ka BX W hch (hat.belowN hW) HN.out hnk hcx.symm hA hBXl.symm hcx.symm (by decide) P hP tn htn.symm)
    rw [show (((0 : UInt64).toNat : Nat) : Int) = 0 from rfl] at HPS
    unfold PartsOut at HPS
    rw [hDT] at HPS
    have HL0 := hide (show n = (R0.take n).length ∧ tn = ((R0.drop n).take tn).length from ⟨by rw [List.length_take]; omega, by rw [List.length_take, List.length_drop]; omega⟩)
    have HL1 := hide (show n = (P.take n).length ∧ tn = (addL BT DT).length ∧ tn = BT.length ∧ tn = DT.length from ⟨by rw [List.length_take]; omega, by rw [addL_length _ _ (by omega)]; omega, hBTl.symm, hDTl.symm⟩)
    have vx : ((n : Int) != c.x) = false := by rw [hcx]; simp
    rw [htn] at hX hb0 h1 h2 ⊢
    have HSM := hide (fun (W : World) (k1 : At W c.p.a c.p.l) (k2 : At W c.q.a c.q.l) => Small23_calls c ta tc _ true HS.out W k1 k2)
    rw [htn] at HSM HNG
    clear hbad hcx hc hxl m0 m1 g0a g0b g0c g1a g1b g1c hR0 hY hYl hR1 hBX hBT hP hR0l hR1l hr2 hr1 hBXl hBTl hPl e0 e1 hG0 hG1 hDT hDTl htn hnx hn1
    go_enter Tryz.func9, Tryz.ntmps9
    go_wp2_with (first
      | (go_at_call 21; go_must ((with_reducible refine (HSM.out _ h1 h2).mono ?_); rintro e w1 ⟨rfl, hb1⟩; have hB1 := hb0.trans (hb1.mono hb0.size); obtain ⟨p0, p1, p2, p3, p4, p5, p6, p7, p8, p9, p10, p11⟩ := (hX.belowN hb1).c6))
      | (go_at_call 36; go_must ((with_reducible refine (HNG.out _ hB1).mono ?_); rintro e w2 ⟨g, rfl, hch, hg, hb2⟩; have hC2 := hb1.trans (hb2.mono hb1.size); have hB2 := hb0.trans (hC2.mono hb0.size); have hXX := hX.belowN hC2; obtain ⟨q0, q1, q2, q3, q4, q5, q6, q7, q8, q9, q10, q11⟩ := (hX.belowN hC2).c6))
      | (go_at_call 38; first
          | (have hgd := hD11; go_must ((with_reducible refine (Same23B a1 r1 c1 f1 n (P.take n) _ HL1.out.1 ha11 hr1 (by omega)).mono ?_); rintro e w12 ⟨rfl, hb12⟩; have hD12 := hD11.trans (hb12.mono hD11.size); obtain ⟨z0, z1, z2, z3, z4, z5⟩ := (hS11.belowN hb12).c3))
          | (have hgd := hSA; go_must ((with_reducible refine (Same23B b2 x2 d2 l2 tn ((R0.drop n).take tn) _ HL0.out.2 ((hg2.at_.belowN hby).belowN (hb4.trans (hb5.mono hb4.size))) (hx2.belowN hb5) (by omega)).mono ?_); rintro e w6 ⟨rfl, hb6⟩; have hSB := hb6; have hD6 := hD5.trans (hb6.mono hD5.size); have hS6 := hS5.belowN hb6; have hB6 := hB2.trans (hD6.mono hB2.size)))
          | go_must ((with_reducible refine (Same23B b1 x1 d1 l1 n (R0.take n) _ HL0.out.1 ((hg1.at_.belowN hby).belowN hb4) hx1 (by omega)).mono ?_); rintro e w5 ⟨rfl, hb5⟩; have hSA := hb5; have hD5 := hD4.trans (hb5.mono hD4.size); have hS5 := hS4.belowN hb5; obtain ⟨z0, z1, z2, z3, z4, z5⟩ := hS5.c3))
      | (go_at_call 40; go_must ((with_reducible refine (HPS.out _ g (hch.belowN hD10) (hB2.trans (hD10.mono hB2.size)) o1 lo1 ho1).mono ?_); rintro e w11 ⟨r1, f1, r2, f2, rfl, hr1, hr2, hb11⟩; have hD11 := hD10.trans (hb11.mono hD10.size); have hS11 := hS10.belowN hb11; obtain ⟨z0, z1, z2, z3, z4, z5⟩ := hS11.c3; have ha11 := (ha9.belowN hb10).belowN hb11))
      | (go_at_call 39; go_must ((with_reducible refine (HST.out _ g (hch.belowN hD6) hB6).mono ?_); rintro e w7 ⟨y, ky, rfl, hky, hy7, hfy, hb7⟩; have hD7 := hD6.trans (hb7.mono hD6.size); have hS7 := hS6.belowN hb7; have hB7 := hB2.trans (hD7.mono hB2.size); obtain ⟨s0, s1', s2', s3', s4, s5, s6, s7, s8, s9, s10, s11⟩ := (hXX.belowN hD7).c6))
      | (go_at_call 25; first
          | (have hgd := hy7; go_must ((with_reducible refine (HG1.out _ hB7).mono ?_); rintro e w8 ⟨a1, m1, c1, a2, m2, c2, rfl, hm1, hm2, ha1, ha2, hb8⟩; obtain rfl : n = m1 := HL1.out.1.trans hm1.symm; obtain rfl : tn = m2 := HL1.out.2.1.trans hm2.symm; clear hm1 hm2; have hD8 := hD7.trans (hb8.mono hD7.size); have hS8 := hS7.belowN hb8; obtain ⟨z0, z1, z2, z3, z4, z5⟩ := hS8.c3; have hgr := grown_trans (grown_trans (grown_setCell w8 w3.heap.size 0 (.int .u64 (G1.toNat : Int))) (grown_setCell _ w3.heap.size 1 (.slice a1 n c1))) (grown_setCell _ w3.heap.size 2 (.slice a2 tn c2)); have hg37 : w3.heap.size < w7.heap.size := (by have := hS7.lt; exact this); have hg36 : w3.heap.size < w6.heap.size := (by have := hS6.lt; exact this); have hD9 : Below w2.heap.size w2 (((w8.setCell ⟨w3.heap.size, 0, none⟩ (.int .u64 (G1.toNat : Int))).setCell ⟨w3.heap.size, 1, none⟩ (.slice a1 n c1)).setCell ⟨w3.heap.size, 2, none⟩ (.slice a2 tn c2)) := hD8.grown hgr hD8.size (fun q hq => by injection hq with hq; subst hq; exact hb3.size); have hS9 := ((hS8.set_ 0 (.int .u64 (G1.toNat : Int))).set_ 1 (.slice a1 n c1)).set_ 2 (.slice a2 tn c2); have ha9 := (ha1.grown hgr (.inr (own_ne ha1 hg37))).at_; have ha9' := (ha2.grown hgr (.inr (own_ne ha2 hg37))).at_; have hy9 := (hy7.belowN hb8).grown hgr (fun _ => .inl (fun e => by have := (hfy _ e).1; omega))))
          | go_must ((with_reducible refine (HG0.out _ hB2).mono ?_); rintro e w3 ⟨b1, m1, d1, b2, m2, d2, rfl, hm1, hm2, hg1, hg2, hb3⟩; obtain rfl : n = m1 := HL0.out.1.trans hm1.symm; obtain rfl : tn = m2 := HL0.out.2.trans hm2.symm; clear hm1 hm2; have hby := below_box w3 (.cells #[.int .u64 (G0.toNat : Int), .slice b1 n d1, .slice b2 tn d2] 56); have hD3 := hb3.trans (hby.mono hb3.size); have hB3 := hB2.trans (hD3.mono hB2.size); have hS3 := Blk.new w3 56 #[.int .u64 (G0.toNat : Int), .slice b1 n d1, .slice b2 tn d2]))
      | (go_at_call 37; first
          | (have hgd := hD9; go_must ((with_reducible refine (HPY.out _ g (hch.belowN hD9) y ky hky hy9).mono ?_); rintro e w10 ⟨o1, lo1, o2, lo2, rfl, ho1, ho2, hb10⟩; have hD10 := hD9.trans (hb10.mono hD9.size); have hS10 := hS9.belowN hb10))
          | go_must ((with_reducible refine (HPL.out _ g (hch.belowN hD3) hB3).mono ?_); rintro e w4 ⟨x1, l1, x2, l2, rfl, hx1, hx2, hb4⟩; have hD4 := hD3.trans (hb4.mono hD3.size); have hS4 := hS3.belowN hb4; obtain ⟨z0, z1, z2, z3, z4, z5⟩ := hS4.c3)))
    have hS12 := hS11.belowN hb12
    have hA12 := ((ha9'.belowN hb10).belowN hb11).belowN hb12
    have hB12 := (ho2.belowN hb11).belowN hb12
    have hC12 := hr2.belowN hb12
    have hBf := hB2.trans (hD12.mono hB2.size)
    clear z0 z1 z2 z3 z4 z5 s0 s1' s2' s3' s4 s5 s6 s7 s8 s9 s10 s11 hgr hD3 hD4 hD5 hD6 hD7 hD8 hD9 hD10 hD11 hS3 hS4 hS5 hS6 hS7 hS8 hS9 hS10 hS11 hy9 ha9 ha9' ha11 hr1 hr2 ho1 ho2
    go_loopw [20] (fun iv wr => ∃ (i : Nat), iv = .int .i64 i ∧ i ≤ tn ∧ Below w12.heap.size w12 wr) (fun iv _ => tn - (intOf iv).toNat)
    case atStart => exact ⟨0, rfl, by omega, Below.refl _ _⟩
    case round =>
      obtain ⟨i, rfl, hi, hb13⟩ := hrel
      have hz13 := hb13.size
      by_cases hlt : i < tn
      · obtain ⟨qa, qo, xv, rfl, hxv, f0⟩ := hA12.getU hb13 (k := i) (by rw [← HL1.out.2.1]; exact hlt)
        obtain ⟨qa', qo', bv, rfl, hbv, f3⟩ := hB12.getU hb13 (k := i) (by rw [← HL1.out.2.2.1]; exact hlt)
        obtain ⟨qa'', qo'', dv, rfl, hdv, f4⟩ := hC12.getU hb13 (k := i) (by rw [← HL1.out.2.2.2]; exact hlt)
        have hs : xv = bv + dv := Option.some.inj (hxv.out.symm.trans (addL_get hbv.out hdv.out))
        have hadd : IntKind.u64.wrap ((bv.toNat : Int) + (dv.toNat : Int)) = (xv.toNat : Int) := by rw [hs]; exact u64_add bv dv
        have hne : ((xv.toNat : Int) != (xv.toNat : Int)) = false := by simp
        obtain ⟨z0, z1, z2, z3, z4, z5⟩ := (hS12.belowN hb13).c3
        obtain ⟨w13, rfl⟩ : ∃ w13 : World, w13 = wr := ⟨_, rfl⟩
        clear hs hxv hbv hdv
        go_wp2
        go_region
        go_wp2
        go_roundw
        case rel => exact ⟨i + 1, by go_num, by omega, hb13.trans (Below.drew (Below.refl _ _))⟩
        case measure => simp [intOf] <;> omega
      · have hin : i = tn := by omega
        subst hin
        obtain ⟨w13, rfl⟩ : ∃ w13 : World, w13 = wr := ⟨_, rfl⟩
        go_wp2_with (go_at_call 22; (with_reducible refine (goes24_calls _).mono ?_); rintro e w8 ⟨rfl, hbel8⟩)
        go_ret
        have hBg := hBf.trans (hb13.mono hBf.size)
        exact ⟨rfl, hBg.trans (hbel8.mono hBg.size)⟩
end Go.Proofs.YtcamcnahkdiefaaGreat
