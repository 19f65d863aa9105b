/- Chapter 23: ChainPulls. -/
import Derived.Test.YtmmepffdjmpblaaGreatC23q
import Derived.Test.YtmmepffdjmpblaaGreatQv
namespace Go.Proofs.YtmmepffdjmpblaaGreat
set_option linter.unusedVariables false
set_option linter.unusedSimpArgs false
open Go.RowKit
/-- two parts and an error, whatever they are -/
def PartsU (l1 l2 : List UInt64) (n1 n2 : Nat) (E : Int) (w : World) (e : Ending) (w' : World) : Prop :=
  ∃ a1 k1 a2 k2, e = .returned (.tuple #[.slice a1 n1 k1, .slice a2 n2 k2, .int .i64 E]) ∧ At w' a1 l1 ∧ At w' a2 l2 ∧ Below w.heap.size w w'
theorem PartsU.bad (E : Int) (w w' : World) (hb : Below w.heap.size w w') : PartsU [] [] 0 0 E w (.returned (.tuple #[.slice none 0 0, .slice none 0 0, .int .i64 E])) w' := ⟨none, 0, none, 0, rfl, At.nil _ _, At.nil _ _, hb⟩
theorem pulls_step (c : ChD) (hc : c.Ok) (ta : Option Addr) (tc : Nat) (t : Int) (a : Option Addr) (n k : Nat) (xs : List UInt64) (aa : Option Addr) (m ka : Nat) (adj : List UInt64) (hn : n = xs.length) (hnk : n ≤ k) (hm : m = adj.length) (h1 : n ≤ 1000000) (h2 : m ≤ 1000000) :
    ∃ (l1 l2 : List UInt64) (n1 n2 : Nat) (E : Int), n1 = l1.length ∧ n2 = l2.length ∧ n1 ≤ 1000000 ∧ n2 ≤ 1000000 ∧
      (∀ g W, ChAt W g c → At W a xs → At W aa adj → Calls Tryz.prog 7 #[.pointer (some ⟨g, 0, none⟩), .int .i64 t, .slice a n k, .slice aa m ka] W (PartsU l1 l2 n1 n2 E W)) ∧
      (∀ W, At W c.p.a c.p.l → At W ta c.th → At W a xs → At W aa adj → Calls Tryz.prog 8 #[.agg #[.int .i64 c.p.regs, .slice c.p.a c.p.l.length c.p.c, .int .i64 c.q.regs, .slice c.q.a c.q.l.length c.q.c, .int .i64 c.x, .slice ta c.th.length tc], .int .i64 t, .slice a n k, .slice aa m ka] W (PartsU l1 l2 n1 n2 E W)) := by
  by_cases hE : c.may t n = 0
  case neg =>
    refine ⟨[], [], 0, 0, c.may t n, rfl, rfl, by decide, by decide, fun g W q1 _ _ => (PullStepMay_calls g c t a n k aa m ka W q1 h1 _ rfl hE).mono ?_, fun W _ _ _ _ => (RPullStepBad_calls c ta tc t a n k aa m ka W _ (by unfold ChD.pse; rw [if_pos hE]) hE).mono ?_⟩
    · rintro e w' ⟨rfl, rfl⟩; exact PartsU.bad _ _ _ (Below.refl _ _)
    · rintro e w' ⟨rfl, hb⟩; exact PartsU.bad _ _ _ hb
  case pos =>
    have htx : ¬ (t < 0 ∨ 65536 ≤ t) := by
      intro q; unfold ChD.may at hE; rw [if_pos q] at hE; exact absurd hE (by decide)
    have hx : (n : Int) = c.x := by
      refine Decidable.not_not.1 fun q => ?_
      unfold ChD.may at hE; rw [if_neg htx, if_pos q] at hE; exact absurd hE (by decide)
    by_cases hmx : (m : Int) = c.x
    case neg =>
      refine ⟨[], [], 0, 0, 10, rfl, rfl, by decide, by decide, fun g W q1 _ _ => (PullStepDim_calls g c t a n k aa m ka W q1 h1 h2 hE hmx).mono ?_, fun W _ _ _ _ => (RPullStepBad_calls c ta tc t a n k aa m ka W 10 (by unfold ChD.pse; rw [if_neg (by simpa using hE), if_pos hmx]) (by decide)).mono ?_⟩
      · rintro e w' ⟨rfl, rfl⟩; exact PartsU.bad _ _ _ (Below.refl _ _)
      · rintro e w' ⟨rfl, hb⟩; exact PartsU.bad _ _ _ hb
    case pos =>
      obtain ⟨v, rfl⟩ : ∃ v : UInt64, t = (v.toNat : Int) := ⟨UInt64.ofNat t.toNat, by rw [UInt64.toNat_ofNat', Nat.mod_eq_of_lt (by omega)]; omega⟩
      have hv : v.toNat < 65536 := by omega
      have hx2 := hc.x2
      have ht2 := hc.t2
      have hr1 := hc.r1
      obtain ⟨d1, d2⟩ := ChD.pstep_run hc (t := (v.toNat : Int)) (xs := xs) (adj := adj) (by rw [← hn]; exact hx) (by rw [← hm]; exact hmx)
      refine ⟨_, _, n, c.th.length, 0, ?_, ?_, h1, by omega, fun g W q1 q2 q3 => PullStepGood_calls g c hc v a n k xs aa m ka adj W q1 q2 hn hnk hx q3 hm hmx hv _ rfl _ rfl, fun W p1 p2 p3 p4 => RPullStepGood_calls c hc ta tc v a n k xs aa m ka adj W p1 p2 p3 hn hx p4 hm hmx hv _ rfl _ rfl⟩
      · rw [List.length_take]; omega
      · rw [List.length_take, List.length_drop]; omega
theorem pulls_loss (c : ChD) (hc : c.Ok) (ta : Option Addr) (tc : Nat) (a : Option Addr) (n k : Nat) (xs : List UInt64) (hn : n = xs.length) (hnk : n ≤ k) (h1 : n ≤ 1000000) :
    ∃ (l1 l2 : List UInt64) (n1 n2 : Nat) (E : Int), n1 = l1.length ∧ n2 = l2.length ∧ n1 ≤ 1000000 ∧ n2 ≤ 1000000 ∧
      (∀ g W, ChAt W g c → At W a xs → Calls Tryz.prog 9 #[.pointer (some ⟨g, 0, none⟩), .slice a n k] W (PartsU l1 l2 n1 n2 E W)) ∧
      (∀ W, At W c.q.a c.q.l → At W ta c.th → At W a xs → Calls Tryz.prog 10 #[.agg #[.int .i64 c.p.regs, .slice c.p.a c.p.l.length c.p.c, .int .i64 c.q.regs, .slice c.q.a c.q.l.length c.q.c, .int .i64 c.x, .slice ta c.th.length tc], .slice a n k] W (PartsU l1 l2 n1 n2 E W)) := by
  by_cases hE : c.may 0 n = 0
  case neg =>
    refine ⟨[], [], 0, 0, c.may 0 n, rfl, rfl, by decide, by decide, fun g W q1 _ => (PullLossBad_calls g c a n k W q1 h1 _ rfl hE).mono ?_, fun W _ _ _ => (RPullLossBad_calls c ta tc a n k W _ rfl hE).mono ?_⟩
    · rintro e w' ⟨rfl, rfl⟩; exact PartsU.bad _ _ _ (Below.refl _ _)
    · rintro e w' ⟨rfl, hb⟩; exact PartsU.bad _ _ _ hb
  case pos =>
    have hx : (n : Int) = c.x := by
      refine Decidable.not_not.1 fun q => ?_
      unfold ChD.may at hE; rw [if_neg (by omega), if_pos q] at hE; exact absurd hE (by decide)
    have hx2 := hc.x2
    have ht2 := hc.t2
    have hr1 := hc.r2
    obtain ⟨d1, d2⟩ := ChD.ploss_run hc (xs := xs) (by rw [← hn]; exact hx)
    refine ⟨_, _, n, c.th.length, 0, ?_, ?_, h1, by omega, fun g W q1 q2 => PullLossGood_calls g c hc a n k xs W q1 q2 hn hnk hx _ rfl _ rfl, fun W p1 p2 p3 => RPullLossGood_calls c hc ta tc a n k xs W p1 p2 p3 hn hx _ rfl _ rfl⟩
    · rw [List.length_take]; omega
    · rw [List.length_take, List.length_drop]; omega
set_option maxRecDepth 100000 in
set_option maxHeartbeats 3200000 in
theorem ChainPulls_calls (c : ChD) (ta : Option Addr) (tc : Nat) (t : Int) (a : Option Addr) (n k : Nat) (xs : List UInt64) (aa : Option Addr) (m ka : Nat) (adj : List UInt64) (w : World) (h : At w c.p.a c.p.l) (h' : At w c.q.a c.q.l) (ht : At w ta c.th) (hat : At w a xs) (hata : At w aa adj) (hn : n = xs.length) (hnk : n ≤ k) (hm : m = adj.length) (hx : -9223372036854775808 ≤ c.x ∧ c.x ≤ 9223372036854775807) :
    Calls Tryz.prog 3 #[.agg #[.int .i64 c.p.regs, .slice c.p.a c.p.l.length c.p.c, .int .i64 c.q.regs, .slice c.q.a c.q.l.length c.q.c, .int .i64 c.x, .slice ta c.th.length tc], .int .i64 t, .slice a n k, .slice aa m ka] w fun e w' => e = .returned (.bool true) ∧ Below w.heap.size w w' := by
  have hb0 := below_new w (.cells #[.int .i64 c.p.regs, .slice c.p.a c.p.l.length c.p.c, .int .i64 c.q.regs, .slice c.q.a c.q.l.length c.q.c, .int .i64 c.x, .slice ta c.th.length tc] 27)
  have hX := Blk.new w 27 #[.int .i64 c.p.regs, .slice c.p.a c.p.l.length c.p.c, .int .i64 c.q.regs, .slice c.q.a c.q.l.length c.q.c, .int .i64 c.x, .slice ta c.th.length tc]
  have h1 := h.belowN hb0
  have h2 := h'.belowN hb0
  have ht1 := ht.belowN hb0
  cases hs : smallC c 1000 with
  | false =>
    have HS := hide hs
    clear hs hn hm
    go_enter Tryz.func3, Tryz.ntmps3
    go_wp2_with (first
      | (go_at_call 4; go_must ((with_reducible refine (Small23_calls c ta tc _ false HS.out _ h1 h2).mono ?_); rintro e w1 ⟨rfl, hb1⟩; have hB1 := hb0.trans (hb1.mono hb0.size); have hz1 := hB1.size))
      | (go_at_call 5; (with_reducible refine (goes23_calls _).mono ?_); rintro e w8 ⟨rfl, hbel8⟩))
    go_ret
    exact ⟨rfl, hB1.trans (hbel8.mono hz1)⟩
  | true =>
    obtain ⟨s1, s2, s3⟩ := small_lens hs
    have HS := hide hs
    by_cases hlen : n ≤ 100 ∧ m ≤ 100
    case neg =>
      clear hs hn hm
      rcases Nat.lt_or_ge 100 n with hn1 | hn1
      · have u1 : (100 : Int) < (n : Int) := by omega
        clear hlen
        go_enter Tryz.func3, Tryz.ntmps3
        go_wp2_with (first
          | (go_at_call 4; go_must ((with_reducible refine (Small23_calls c ta tc _ true HS.out _ h1 h2).mono ?_); rintro e w1 ⟨rfl, hb1⟩; have hB1 := hb0.trans (hb1.mono hb0.size); have hz1 := hB1.size))
          | (go_at_call 5; (with_reducible refine (goes23_calls _).mono ?_); rintro e w8 ⟨rfl, hbel8⟩))
        go_ret
        exact ⟨rfl, hB1.trans (hbel8.mono hz1)⟩
      · have u1 : ¬ ((100 : Int) < (n : Int)) := by omega
        have u2 : (100 : Int) < (m : Int) := by omega
        clear hlen
        go_enter Tryz.func3, Tryz.ntmps3
        go_wp2_with (first
          | (go_at_call 4; go_must ((with_reducible refine (Small23_calls c ta tc _ true HS.out _ h1 h2).mono ?_); rintro e w1 ⟨rfl, hb1⟩; have hB1 := hb0.trans (hb1.mono hb0.size); have hz1 := hB1.size))
          | (go_at_call 5; (with_reducible refine (goes23_calls _).mono ?_); rintro e w8 ⟨rfl, hbel8⟩))
        go_ret
        exact ⟨rfl, hB1.trans (hbel8.mono hz1)⟩
    case pos =>
      obtain ⟨hn1, hm1⟩ := hlen
      have u1 : ¬ ((100 : Int) < (n : Int)) := by omega
      have u2 : ¬ ((100 : Int) < (m : Int)) := by omega
      by_cases hbad : c.bad = 0
      case neg =>
        clear hs hn hm
        go_enter Tryz.func3, Tryz.ntmps3
        go_wp2_with (first
          | (go_at_call 4; go_must ((with_reducible refine (Small23_calls c ta tc _ true HS.out _ h1 h2).mono ?_); rintro e w1 ⟨rfl, hb1⟩; have hB1 := hb0.trans (hb1.mono hb0.size); have hz1 := hB1.size; have h3 := h1.belowN hb1; have h4 := h2.belowN hb1; obtain ⟨p0, p1, p2, p3, p4, p5, p6, p7, p8, p9, p10, p11⟩ := (hX.belowN hb1).c6))
          | (go_at_call 6; go_must ((with_reducible refine (MadeBad_calls c ta tc _ h3 (by omega) h4 (by omega) hx (by omega) hbad).mono ?_); rintro e w2 ⟨rfl, hb2⟩; have hB2 := hB1.trans (hb2.mono hz1); have hz2 := hB2.size))
          | (go_at_call 5; (with_reducible refine (goes23_calls _).mono ?_); rintro e w8 ⟨rfl, hbel8⟩))
        go_ret
        exact ⟨rfl, hB2.trans (hbel8.mono hz2)⟩
      have hc := ChD.ok_of hbad
      obtain ⟨A1, A2, n1, n2, E, e1_, e2_, y1_, y2_, HP, HRP⟩ := pulls_step c hc ta tc t a n k xs aa m ka adj hn hnk hm (by omega) (by omega)
      obtain ⟨B1, B2, n3, n4, F, e3_, e4_, y3_, y4_, HL, HRL⟩ := pulls_loss c hc ta tc a n k xs hn hnk (by omega)
      have HP := hide HP
      have HRP := hide HRP
      have HL := hide HL
      have HRL := hide HRL
      have z1_ := hide e1_
      have z2_ := hide e2_
      have z3_ := hide e3_
      have z4_ := hide e4_
      have ee : (E == E) = true := by simp
      have ff : (F == F) = true := by simp
      clear hs hn hm e1_ e2_ e3_ e4_
      go_enter Tryz.func3, Tryz.ntmps3
      go_wp2_with (first
        | (go_at_call 4; go_must ((with_reducible refine (Small23_calls c ta tc _ true HS.out _ h1 h2).mono ?_); rintro e w1 ⟨rfl, hb1⟩; have hB1 := hb0.trans (hb1.mono hb0.size); have hz1 := hB1.size; have h3 := h1.belowN hb1; have h4 := h2.belowN hb1; have h5 := ht1.belowN hb1; have hX1 := hX.belowN hb1; have hx1 := (hat.belowN hb0).belowN hb1; have ha1 := (hata.belowN hb0).belowN hb1; obtain ⟨p0, p1, p2, p3, p4, p5, p6, p7, p8, p9, p10, p11⟩ := hX1.c6))
        | (go_at_call 6; go_must ((with_reducible refine (MadeGood_calls c ta tc _ h3 (by omega) h4 (by omega) h5 hx (by omega) hbad).mono ?_); rintro e w2 ⟨g, rfl, hch, hg, hb2⟩; have hB2 := hB1.trans (hb2.mono hz1); have hz2 := hB2.size; have hX2 := hX1.belowN hb2; have q1 := h3.belowN hb2; have q2 := h4.belowN hb2; have q3 := h5.belowN hb2; have hx2 := hx1.belowN hb2; have ha2 := ha1.belowN hb2; obtain ⟨r0, r1, r2, r3, r4, r5, r6, r7, r8, r9, r10, r11⟩ := hX2.c6))
        | (go_at_call 7; go_must ((with_reducible refine (HP.out g _ hch hx2 ha2).mono ?_); rintro e w3 ⟨a3, k3, a3', k3', rfl, hS3, hS3', hb3⟩; have hB3 := hB2.trans (hb3.mono hz2); have hz3 := hB3.size; have hX3 := hX2.belowN hb3; have hch3 := hch.belowN hb3; have v1 := q1.belowN hb3; have v2 := q2.belowN hb3; have v3 := q3.belowN hb3; have hx3 := hx2.belowN hb3; have ha3 := ha2.belowN hb3; obtain ⟨m0, m1, m2, m3, m4, m5, m6, m7, m8, m9, m10, m11⟩ := hX3.c6))
        | (go_at_call 8; go_must ((with_reducible refine (HRP.out _ v1 v3 hx3 ha3).mono ?_); rintro e w4 ⟨a4, k4, a4', k4', rfl, hT4, hT4', hb4⟩; have hch4 := hch3.belowN hb4; have hB4 := hB3.trans (hb4.mono hz3); have hz4 := hB4.size; have hX4 := hX3.belowN hb4; have t2 := v2.belowN hb4; have t3 := v3.belowN hb4; have hx4 := hx3.belowN hb4; have hS4 := hS3.belowN hb4; have hS4' := hS3'.belowN hb4; obtain ⟨y0, y1, y2, y3, y4, y5, y6, y7, y8, y9, y10, y11⟩ := hX4.c6))
        | (go_at_call 9; go_must ((with_reducible refine (HL.out g _ hch4 hx4).mono ?_); rintro e w5 ⟨a5, k5, a5', k5', rfl, hU5, hU5', hb5⟩; have hB5 := hB4.trans (hb5.mono hz4); have hz5 := hB5.size; have hX5 := hX4.belowN hb5; have l2 := t2.belowN hb5; have l3 := t3.belowN hb5; have hx5 := hx4.belowN hb5; have hS5 := hS4.belowN hb5; have hT5 := hT4.belowN hb5; have hS5' := hS4'.belowN hb5; have hT5' := hT4'.belowN hb5; obtain ⟨z0, z1, z2, z3, z4, z5, z6, z7, z8, z9, z10, z11⟩ := hX5.c6))
        | (go_at_call 10; go_must ((with_reducible refine (HRL.out _ l2 l3 hx5).mono ?_); rintro e w6 ⟨a6, k6, a6', k6', rfl, hV6, hV6', hb6⟩; have hB6 := hB5.trans (hb6.mono hz5); have hz6 := hB6.size; have hS6 := hS5.belowN hb6; have hT6 := hT5.belowN hb6; have hS6' := hS5'.belowN hb6; have hT6' := hT5'.belowN hb6; have hU6 := hU5.belowN hb6; have hU6' := hU5'.belowN hb6))
        | (have hgd := q9; go_at_call 11; go_must ((refine (Same23 a5' a6' k5' k6' n4 B2 _ z4_.out (hU6'.belowN hbd9) (hV6'.belowN hbd9) y4_).mono ?_); rintro e w10 ⟨rfl, q10, hw10⟩; have hbd10 : Below w6.heap.size w6 w10 := hbd9.trans (hw10 ▸ below_drawn _ _ _); clear hw10))
        | (have hgd := q8; go_at_call 11; go_must ((refine (Same23 a5 a6 k5 k6 n3 B1 _ z3_.out (hU6.belowN hbd8) (hV6.belowN hbd8) y3_).mono ?_); rintro e w9 ⟨rfl, q9, hw9⟩; have hbd9 : Below w6.heap.size w6 w9 := hbd8.trans (hw9 ▸ below_drawn _ _ _); clear hw9))
        | (have hgd := q7; go_at_call 11; go_must ((refine (Same23 a3' a4' k3' k4' n2 A2 _ z2_.out (hS6'.belowN hbd7) (hT6'.belowN hbd7) y2_).mono ?_); rintro e w8 ⟨rfl, q8, hw8⟩; have hbd8 : Below w6.heap.size w6 w8 := hbd7.trans (hw8 ▸ below_drawn _ _ _); clear hw8))
        | (go_at_call 11; go_must ((refine (Same23 a3 a4 k3 k4 n1 A1 _ z1_.out hS6 hT6 y1_).mono ?_); rintro e w7 ⟨rfl, q7, hw7⟩; have hbd7 : Below w6.heap.size w6 w7 := hw7 ▸ below_drawn _ _ _; clear hw7))
        | (go_at_call 5; (with_reducible refine (goes23_calls _).mono ?_); rintro e w11 ⟨rfl, hbel8⟩))
      go_ret
      have hB7 := hB6.trans (hbd10.mono hz6)
      exact ⟨rfl, hB7.trans (hbel8.mono hB7.size)⟩
end Go.Proofs.YtmmepffdjmpblaaGreat
