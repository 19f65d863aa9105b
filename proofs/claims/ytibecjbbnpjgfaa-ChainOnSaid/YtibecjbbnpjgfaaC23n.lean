/- Chapter 23: ChainRuns. -/
import Derived.Test.YtibecjbbnpjgfaaC23m
namespace Go.Proofs.Ytibecjbbnpjgfaa
set_option linter.unusedVariables false
set_option linter.unusedSimpArgs false
open Go.RowKit
theorem Lists23N (a b : Option Addr) (ca cb n m : Nat) (ls : List (List UInt64)) (w : World) (hn : n = ls.length) (hm : m = ls.length) (h0 : AtL w a ls) (h1 : AtL w b ls) (hl : n ≤ 1000000000) (hls : ∀ l ∈ ls, l.length ≤ 1000000000) :
    Calls Try.prog 27 #[.slice a n ca, .slice b m cb] w fun e w' => e = .returned (.bool true) ∧ ∃ n, w' = w.drewN n := by
  subst hn; subst hm; exact Lists23_calls a b ca cb ls w h0 h1 hl hls
theorem ChD.states_len {c : ChD} (hc : c.Ok) {xs : List UInt64} (hx : (xs.length : Int) = c.x) (l : Nat) : ∀ y ∈ c.states xs l, y.length ≤ 1000000000 := by
  intro y hy
  unfold ChD.states at hy
  obtain ⟨j, hj, rfl⟩ := List.mem_map.1 hy
  have := ChD.iter_length hc hx j
  have := hc.x2
  omega
set_option maxRecDepth 100000 in
set_option maxHeartbeats 6400000 in
theorem ChainRuns_calls (c : ChD) (ta : Option Addr) (tc : Nat) (a : Option Addr) (n k : Nat) (xs : List UInt64) (l : Int) (w : World) (h : At w c.p.a c.p.l) (h' : At w c.q.a c.q.l) (ht : At w ta c.th) (hat : At w a xs) (hn : n = xs.length) (hnk : n ≤ k) (hx : -9223372036854775808 ≤ c.x ∧ c.x ≤ 9223372036854775807) :
    Calls Try.prog 5 #[.agg #[.int .i64 c.p.regs, .slice c.p.a c.p.l.length c.p.c, .int .i64 c.q.regs, .slice c.q.a c.q.l.length c.q.c, .int .i64 c.x, .slice ta c.th.length tc], .slice a n k, .int .i64 l] w fun e w' => e = .returned (.bool true) ∧ Below w.heap.size w w' := by
  have hb0 := below_new w (.cells #[.int .i64 c.p.regs, .slice c.p.a c.p.l.length c.p.c, .int .i64 c.q.regs, .slice c.q.a c.q.l.length c.q.c, .int .i64 c.x, .slice ta c.th.length tc] 37)
  have hX := Blk.new w 37 #[.int .i64 c.p.regs, .slice c.p.a c.p.l.length c.p.c, .int .i64 c.q.regs, .slice c.q.a c.q.l.length c.q.c, .int .i64 c.x, .slice ta c.th.length tc]
  have h1 := h.belowN hb0
  have h2 := h'.belowN hb0
  have ht1 := ht.belowN hb0
  cases hs : smallC c 300 with
  | false =>
    have HS := hide hs
    clear hs hn
    go_enter Try.func5, Try.ntmps5
    go_wp2_with (first
            | (go_at_call 17; go_must ((with_reducible refine (Small23_calls c ta tc _ false HS.out _ h1 h2).mono ?_); rintro e w1 ⟨rfl, hb1⟩; have hB1 := hb0.trans (hb1.mono hb0.size); have hz1 := hB1.size; have h3 := h1.belowN hb1; have h4 := h2.belowN hb1; have h5 := ht1.belowN hb1; have hX1 := hX.belowN hb1; have hx1 := (hat.belowN hb0).belowN hb1; obtain ⟨p0, p1, p2, p3, p4, p5, p6, p7, p8, p9, p10, p11⟩ := hX1.c6))
            | (go_at_call 18; (with_reducible refine (goes23_calls _).mono ?_); rintro e w8 ⟨rfl, hbel8⟩))
    go_ret
    exact ⟨rfl, hB1.trans (hbel8.mono hz1)⟩
  | true =>
    obtain ⟨s1, s2, s3⟩ := small_lens hs
    have HS := hide hs
    rcases Nat.lt_or_ge 100 n with hn1 | hn1
    · have u1 : (100 : Int) < (n : Int) := by omega
      clear hs hn
      go_enter Try.func5, Try.ntmps5
      go_wp2_with (first
            | (go_at_call 17; go_must ((with_reducible refine (Small23_calls c ta tc _ true HS.out _ h1 h2).mono ?_); rintro e w1 ⟨rfl, hb1⟩; have hB1 := hb0.trans (hb1.mono hb0.size); have hz1 := hB1.size; have h3 := h1.belowN hb1; have h4 := h2.belowN hb1; have h5 := ht1.belowN hb1; have hX1 := hX.belowN hb1; have hx1 := (hat.belowN hb0).belowN hb1; obtain ⟨p0, p1, p2, p3, p4, p5, p6, p7, p8, p9, p10, p11⟩ := hX1.c6))
            | (go_at_call 18; (with_reducible refine (goes23_calls _).mono ?_); rintro e w8 ⟨rfl, hbel8⟩))
      go_ret
      exact ⟨rfl, hB1.trans (hbel8.mono hz1)⟩
    have u1 : ¬ ((100 : Int) < (n : Int)) := by omega
    by_cases hl : 40 < l ∧ l < 65536
    · obtain ⟨hl1, hl2⟩ := hl
      clear hs hn
      go_enter Try.func5, Try.ntmps5
      go_wp2_with (first
            | (go_at_call 17; go_must ((with_reducible refine (Small23_calls c ta tc _ true HS.out _ h1 h2).mono ?_); rintro e w1 ⟨rfl, hb1⟩; have hB1 := hb0.trans (hb1.mono hb0.size); have hz1 := hB1.size; have h3 := h1.belowN hb1; have h4 := h2.belowN hb1; have h5 := ht1.belowN hb1; have hX1 := hX.belowN hb1; have hx1 := (hat.belowN hb0).belowN hb1; obtain ⟨p0, p1, p2, p3, p4, p5, p6, p7, p8, p9, p10, p11⟩ := hX1.c6))
            | (go_at_call 18; (with_reducible refine (goes23_calls _).mono ?_); rintro e w8 ⟨rfl, hbel8⟩))
      go_ret
      exact ⟨rfl, hB1.trans (hbel8.mono hz1)⟩
    by_cases hbad : c.bad = 0
    case neg =>
      rcases Int.lt_or_le 40 l with hl1 | hl1
      · have hl2 : ¬ l < 65536 := by omega
        clear hs hn hl
        go_enter Try.func5, Try.ntmps5
        go_wp2_with (first
            | (go_at_call 17; go_must ((with_reducible refine (Small23_calls c ta tc _ true HS.out _ h1 h2).mono ?_); rintro e w1 ⟨rfl, hb1⟩; have hB1 := hb0.trans (hb1.mono hb0.size); have hz1 := hB1.size; have h3 := h1.belowN hb1; have h4 := h2.belowN hb1; have h5 := ht1.belowN hb1; have hX1 := hX.belowN hb1; have hx1 := (hat.belowN hb0).belowN hb1; obtain ⟨p0, p1, p2, p3, p4, p5, p6, p7, p8, p9, p10, p11⟩ := hX1.c6))
            | (go_at_call 19; go_must ((with_reducible refine (MadeBad_calls c ta tc _ h3 (by omega) h4 (by omega) hx (by omega) hbad).mono ?_); rintro e w2 ⟨rfl, hb2⟩; have hB2 := hB1.trans (hb2.mono hz1); have hz2 := hB2.size))
            | (go_at_call 18; (with_reducible refine (goes23_calls _).mono ?_); rintro e w8 ⟨rfl, hbel8⟩))
        go_ret
        exact ⟨rfl, hB2.trans (hbel8.mono hz2)⟩
      · have hl2 : ¬ 40 < l := by omega
        clear hs hn hl
        go_enter Try.func5, Try.ntmps5
        go_wp2_with (first
            | (go_at_call 17; go_must ((with_reducible refine (Small23_calls c ta tc _ true HS.out _ h1 h2).mono ?_); rintro e w1 ⟨rfl, hb1⟩; have hB1 := hb0.trans (hb1.mono hb0.size); have hz1 := hB1.size; have h3 := h1.belowN hb1; have h4 := h2.belowN hb1; have h5 := ht1.belowN hb1; have hX1 := hX.belowN hb1; have hx1 := (hat.belowN hb0).belowN hb1; obtain ⟨p0, p1, p2, p3, p4, p5, p6, p7, p8, p9, p10, p11⟩ := hX1.c6))
            | (go_at_call 19; go_must ((with_reducible refine (MadeBad_calls c ta tc _ h3 (by omega) h4 (by omega) hx (by omega) hbad).mono ?_); rintro e w2 ⟨rfl, hb2⟩; have hB2 := hB1.trans (hb2.mono hz1); have hz2 := hB2.size))
            | (go_at_call 18; (with_reducible refine (goes23_calls _).mono ?_); rintro e w8 ⟨rfl, hbel8⟩))
        go_ret
        exact ⟨rfl, hB2.trans (hbel8.mono hz2)⟩
    have hc := ChD.ok_of hbad
    by_cases hE0 : c.may l n = 0
    case neg =>
      obtain ⟨E, hE⟩ : ∃ E, c.may l n = E := ⟨_, rfl⟩
      rw [hE] at hE0
      have HE := hide hE
      have HE0 := hide hE0
      have ee : (E == E) = true := by simp
      have e1 : (E == 0) = false := by simpa using hE0
      have e2 : (E != 0) = true := by simpa using hE0
      have hlc : 40 < l ∨ ¬ 40 < l := by omega
      rcases hlc with hl1 | hl1
      all_goals
        have hl2 : 40 < l → ¬ l < 65536 := by omega
        first
          | have hl3 := hl2 hl1
          | have hl3 := hl1
        clear hs hn hE hE0 hl hl2
        go_enter Try.func5, Try.ntmps5
        go_wp2_with (first
            | (go_at_call 17; go_must ((with_reducible refine (Small23_calls c ta tc _ true HS.out _ h1 h2).mono ?_); rintro e w1 ⟨rfl, hb1⟩; have hB1 := hb0.trans (hb1.mono hb0.size); have hz1 := hB1.size; have h3 := h1.belowN hb1; have h4 := h2.belowN hb1; have h5 := ht1.belowN hb1; have hX1 := hX.belowN hb1; have hx1 := (hat.belowN hb0).belowN hb1; obtain ⟨p0, p1, p2, p3, p4, p5, p6, p7, p8, p9, p10, p11⟩ := hX1.c6))
            | (go_at_call 19; go_must ((with_reducible refine (MadeGood_calls c ta tc _ h3 (by omega) h4 (by omega) h5 hx (by omega) hbad).mono ?_); rintro e w2 ⟨g, rfl, hch, hg, hb2⟩; have hB2 := hB1.trans (hb2.mono hz1); have hz2 := hB2.size; have hX2 := hX1.belowN hb2; have q1 := h3.belowN hb2; have q2 := h4.belowN hb2; have q3 := h5.belowN hb2; have hx2 := hx1.belowN hb2; obtain ⟨r0, r1, r2, r3, r4, r5, r6, r7, r8, r9, r10, r11⟩ := hX2.c6))
            | (go_at_call 24; go_must ((with_reducible refine (StatesBad_calls g c l a n k _ hch (by omega) E HE.out HE0.out).mono ?_); rintro e w3 ⟨rfl, hb3⟩; have hB3 := hB2.trans (hb3.mono hz2); have hz3 := hB3.size; have hX3 := hX2.belowN hb3; have hch3 := hch.belowN hb3; obtain ⟨m0, m1, m2, m3, m4, m5, m6, m7, m8, m9, m10, m11⟩ := hX3.c6))
            | (go_at_call 25; go_must ((with_reducible refine (RStatesBad_calls c ta tc l a n k _ (by omega) E HE.out HE0.out).mono ?_); rintro e w4 ⟨rfl, hb4⟩; have hch4 := hch3.belowN hb4; have hB4 := hB3.trans (hb4.mono hz3); have hz4 := hB4.size))
            | (go_at_call 26; go_must ((with_reducible refine (CRunBad_calls g c l a n k _ hch4 (by omega) E HE.out HE0.out).mono ?_); rintro e w5 ⟨rfl, hb5⟩; have hB5 := hB4.trans (hb5.mono hz4); have hz5 := hB5.size))
            | (go_at_call 27; go_must ((refine (Lists23N none none 0 0 0 0 [] _ rfl rfl ⟨[], At.nil _ _, rfl, fun i h l hx => by simp at hx⟩ ⟨[], At.nil _ _, rfl, fun i h l hx => by simp at hx⟩ (by decide) (by simp)).mono ?_); rintro e w7 ⟨rfl, q7, rfl⟩))
            | (go_at_call 18; (with_reducible refine (goes23_calls _).mono ?_); rintro e w8 ⟨rfl, hbel8⟩))
        go_ret
        have hB7 := hB5.trans (below_drawn w5 w.heap.size q7)
        exact ⟨rfl, hB7.trans (hbel8.mono hB7.size)⟩
    have hnx : (n : Int) = c.x := by
      unfold ChD.may at hE0
      split at hE0
      · omega
      · split at hE0
        · omega
        · rename_i h; simpa using h
    have hl0 : 0 ≤ l := by
      unfold ChD.may at hE0
      split at hE0
      · omega
      · omega
    have hl9 : l < 65536 := by
      unfold ChD.may at hE0
      split at hE0
      · omega
      · omega
    obtain ⟨lN, rfl⟩ : ∃ lN : Nat, l = (lN : Int) := ⟨l.toNat, by omega⟩
    have hlN : lN ≤ 40 := by omega
    obtain ⟨R, hR⟩ : ∃ R, c.loss (c.iter xs lN) = R := ⟨_, rfl⟩
    have HR := hide hR
    have HN := hide hn
    have HNX := hide hnx
    have HLS := hide (ChD.states_len hc (xs := xs) (by rw [← hn]; exact hnx) lN)
    have HLEN := hide (show n = (c.iter xs lN).length by have := ChD.iter_length hc (xs := xs) (by rw [← hn]; exact hnx) lN; omega)
    have HSL := hide (c.states_length xs lN).symm
    have HAT := hide (c.states_at xs lN (k := lN) (by omega))
    have rr : ((R.toNat : Int) == (R.toNat : Int)) = true := by simp
    have hl2 : ¬ (40 : Int) < (lN : Int) := by omega
    have hlt : lN < (c.states xs lN).length := by rw [c.states_length]; omega
    have HLT := hide hlt
    clear hs hn hR hE0 hl hlt hl9
    go_enter Try.func5, Try.ntmps5
    go_wp2_with (first
            | (go_at_call 17; go_must ((with_reducible refine (Small23_calls c ta tc _ true HS.out _ h1 h2).mono ?_); rintro e w1 ⟨rfl, hb1⟩; have hB1 := hb0.trans (hb1.mono hb0.size); have hz1 := hB1.size; have h3 := h1.belowN hb1; have h4 := h2.belowN hb1; have h5 := ht1.belowN hb1; have hX1 := hX.belowN hb1; have hx1 := (hat.belowN hb0).belowN hb1; obtain ⟨p0, p1, p2, p3, p4, p5, p6, p7, p8, p9, p10, p11⟩ := hX1.c6))
            | (go_at_call 19; go_must ((with_reducible refine (MadeGood_calls c ta tc _ h3 (by omega) h4 (by omega) h5 hx (by omega) hbad).mono ?_); rintro e w2 ⟨g, rfl, hch, hg, hb2⟩; have hB2 := hB1.trans (hb2.mono hz1); have hz2 := hB2.size; have hX2 := hX1.belowN hb2; have q1 := h3.belowN hb2; have q2 := h4.belowN hb2; have q3 := h5.belowN hb2; have hx2 := hx1.belowN hb2; obtain ⟨r0, r1, r2, r3, r4, r5, r6, r7, r8, r9, r10, r11⟩ := hX2.c6))
            | (go_at_call 24; go_must ((with_reducible refine (StatesGood_calls g c hc lN (by omega) a n k xs _ hch hx2 HN.out hnk HNX.out).mono ?_); rintro e w3 ⟨a3, c3, hs3, rfl, hL3, hb3⟩; have hB3 := hB2.trans (hb3.mono hz2); have hz3 := hB3.size; have hX3 := hX2.belowN hb3; have hch3 := hch.belowN hb3; have v1 := q1.belowN hb3; have v2 := q2.belowN hb3; have v3 := q3.belowN hb3; have hx3 := hx2.belowN hb3; obtain ⟨m0, m1, m2, m3, m4, m5, m6, m7, m8, m9, m10, m11⟩ := hX3.c6))
            | (go_at_call 25; go_must ((with_reducible refine (RStatesGood_calls c hc ta tc lN (by omega) a n k xs _ v1 v3 hx3 HN.out HNX.out).mono ?_); rintro e w4 ⟨a4, c4, hs4, rfl, hL4, hb4⟩; have hch4 := hch3.belowN hb4; have hB4 := hB3.trans (hb4.mono hz3); have hz4 := hB4.size; have hX4 := hX3.belowN hb4; have t2 := v2.belowN hb4; have t3 := v3.belowN hb4; have hx4 := hx3.belowN hb4; have hS4 := (hL3.at_).belowN hb4))
            | (go_at_call 26; go_must ((with_reducible refine (CRunGood_calls g c hc lN (by omega) a n k xs _ hch4 hx4 HN.out hnk HNX.out R HR.out).mono ?_); rintro e w5 ⟨a5, k5, rfl, hk5, hat5, hb5⟩; have hB5 := hB4.trans (hb5.mono hz4); have hz5 := hB5.size; have hX5 := hX4.belowN hb5; have l2 := t2.belowN hb5; have l3 := t3.belowN hb5; have hS5 := hS4.belowN hb5; have hT5 := (hL4.at_).belowN hb5))
            | (go_at_call 27; go_must ((refine (Lists23N a3 a4 c3 c4 (lN + 1) (lN + 1) (c.states xs lN) _ HSL.out HSL.out hS5 hT5 (by omega) HLS.out).mono ?_); rintro e w7 ⟨rfl, q7, rfl⟩; have hd7 := below_drawn w5 w5.heap.size q7; have hB7 := hB5.trans (hd7.mono hz5); have hz7 := hB7.size; have hX7 := hX5.belowN hd7; have l72 := l2.belowN hd7; have l73 := l3.belowN hd7; have hT7 := hT5.belowN hd7; have hat7 := hat5.belowN hd7; obtain ⟨z0, z1, z2, z3, z4, z5, z6, z7, z8, z9, z10, z11⟩ := hX5.c6)))
    obtain ⟨b, off, ha, hcp, l, hba, hxl, x0, hcap, hatl⟩ := hT7.get (Below.refl _ _) (k := lN) HLT.out
    subst hba
    obtain rfl : c.iter xs lN = l := by have := HAT.out.symm.trans hxl.out; simpa using this
    rw [← HLEN.out] at x0
    have hd8 : Below (w5.drewN q7).heap.size (w5.drewN q7) (w5.drewN q7).drew := Below.drew (Below.refl _ _)
    have x05 : w5.cell? ⟨b, off + lN, none⟩ = some (.slice ha n hcp) := x0
    have hblt := World.block_lt_of_cell? _ _ x0
    have k0 : (0 : Int) ≤ (lN : Int) := by omega
    have k1 : (lN : Int) < ((lN + 1 : Nat) : Int) := by omega
    have k2 : (lN : Int) < (lN : Int) + 1 := by omega
    have HRL := hide (RLossGood_calls c hc ta tc ha n hcp (c.iter xs lN) (w5.drewN q7).drew (l72.belowN hd8) (l73.belowN hd8) (hatl.belowN hd8) HLEN.out HNX.out R HR.out)
    have hw1 : IntKind.i64.wrap (((lN + 1 : Nat) : Int) - 1) = (lN : Int) := by rw [IntWalk.i64_in _ (by omega)]; omega
    have hw2 : IntKind.i64.wrap ((lN : Int) + 1 - 1) = (lN : Int) := by rw [IntWalk.i64_in _ (by omega)]; omega
    have hw3 : IntKind.i64.wrap (lN : Int) = (lN : Int) := IntWalk.i64_in _ (by omega)
    have hw4 : ((lN : Int)).toNat = lN := by omega
    clear hxl
    go_region_held3 (fun w' => (w'.cell? ⟨w.heap.size, 0, none⟩ = some (.int .i64 c.p.regs) ∧ w'.cell? ⟨w.heap.size, 1, none⟩ = some (.slice c.p.a c.p.l.length c.p.c) ∧ w'.cell? ⟨w.heap.size, 2, none⟩ = some (.int .i64 c.q.regs) ∧ w'.cell? ⟨w.heap.size, 3, none⟩ = some (.slice c.q.a c.q.l.length c.q.c) ∧ w'.cell? ⟨w.heap.size, 4, none⟩ = some (.int .i64 c.x) ∧ w'.cell? ⟨w.heap.size, 5, none⟩ = some (.slice ta c.th.length tc)) ∧ w'.cell? ⟨b, off + lN, none⟩ = some (.slice ha n hcp)) (go_keep)
      ((go_at_call 23; go_must (refine (HRL.out).mono ?_; rintro e w8 ⟨rfl, hb8⟩; have hB8 := hd8.trans (hb8.mono hd8.size); have hz8 := hB8.size; obtain ⟨r0, r1, r2, r3, r4, r5, r6, r7, r8, r9, r10, r11⟩ := (hX7.belowN hB8).c6; obtain ⟨y0, _⟩ := bcell hB8; have y2 := (y0 b (off + lN) hblt).trans x0)))
    have hat8 := hat7.belowN hB8
    have hatl8 := hatl.belowN hB8
    go_wp2_with (first
      | (go_at_call 16; go_must ((refine (Same23 a5 ha k5 hcp n (c.iter xs lN) _ HLEN.out hat8 hatl8 (by omega)).mono ?_); rintro e w9 ⟨rfl, q9, rfl⟩))
      | (go_at_call 18; (with_reducible refine (goes23_calls _).mono ?_); rintro e w10 ⟨rfl, hbel10⟩))
    go_ret
    have hB9 := (hB7.trans (hB8.mono hz7)).trans (below_drawn w8 w.heap.size q9)
    exact ⟨rfl, hB9.trans (hbel10.mono hB9.size)⟩
end Go.Proofs.Ytibecjbbnpjgfaa
