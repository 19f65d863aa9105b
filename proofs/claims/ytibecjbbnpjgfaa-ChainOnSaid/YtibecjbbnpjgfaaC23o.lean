/- Chapter 23: ChainOn. -/
import Derived.Test.YtibecjbbnpjgfaaC23n
namespace Go.Proofs.Ytibecjbbnpjgfaa
set_option linter.unusedVariables false
set_option linter.unusedSimpArgs false
open Go.RowKit
theorem AtL.take {w : World} {a : Option Addr} {ls : List (List UInt64)} (h : AtL w a ls) (k : Nat) : AtL w a (ls.take k) := by
  obtain ⟨hs, h1, h2, h3⟩ := h
  refine ⟨hs.take k, h1.take k, by simp [h2], fun i x l hx hl => ?_⟩
  rw [List.getElem?_take] at hx hl
  by_cases hi : i < k
  · rw [if_pos hi] at hx hl; exact h3 i x l hx hl
  · rw [if_neg hi] at hx; cases hx
set_option maxRecDepth 100000 in
set_option maxHeartbeats 6400000 in
theorem ChainOn_calls (c : ChD) (ta : Option Addr) (tc : Nat) (a : Option Addr) (n k : Nat) (xs : List UInt64) (l m : Int) (w : World) (h : At w c.p.a c.p.l) (h' : At w c.q.a c.q.l) (ht : At w ta c.th) (hat : At w a xs) (hn : n = xs.length) (hnk : n ≤ k) (hx : -9223372036854775808 ≤ c.x ∧ c.x ≤ 9223372036854775807) :
    Calls Try.prog 6 #[.agg #[.int .i64 c.p.regs, .slice c.p.a c.p.l.length c.p.c, .int .i64 c.q.regs, .slice c.q.a c.q.l.length c.q.c, .int .i64 c.x, .slice ta c.th.length tc], .slice a n k, .int .i64 l, .int .i64 m] w fun e w' => e = .returned (.bool true) ∧ Below w.heap.size w w' := by
  have hb0 := below_new w (.cells #[.int .i64 c.p.regs, .slice c.p.a c.p.l.length c.p.c, .int .i64 c.q.regs, .slice c.q.a c.q.l.length c.q.c, .int .i64 c.x, .slice ta c.th.length tc] 37)
  have hX := Blk.new w 37 #[.int .i64 c.p.regs, .slice c.p.a c.p.l.length c.p.c, .int .i64 c.q.regs, .slice c.q.a c.q.l.length c.q.c, .int .i64 c.x, .slice ta c.th.length tc]
  have h1 := h.belowN hb0
  have h2 := h'.belowN hb0
  have ht1 := ht.belowN hb0
  cases hs : smallC c 300 with
  | false =>
    have HS := hide hs
    clear hs hn
    go_enter Try.func6, Try.ntmps6
    go_wp2_with (first
            | (go_at_call 17; go_must ((with_reducible refine (Small23_calls c ta tc _ false HS.out _ h1 h2).mono ?_); rintro e w1 ⟨rfl, hb1⟩; have hB1 := hb0.trans (hb1.mono hb0.size); have hz1 := hB1.size; have h3 := h1.belowN hb1; have h4 := h2.belowN hb1; have h5 := ht1.belowN hb1; have hX1 := hX.belowN hb1; have hx1 := (hat.belowN hb0).belowN hb1; obtain ⟨p0, p1, p2, p3, p4, p5, p6, p7, p8, p9, p10, p11⟩ := hX1.c6))
            | (go_at_call 18; (with_reducible refine (goes23_calls _).mono ?_); rintro e w8 ⟨rfl, hbel8⟩))
    go_ret
    exact ⟨rfl, hB1.trans (hbel8.mono hz1)⟩
  | true =>
    obtain ⟨s1, s2, s3⟩ := small_lens hs
    have HS := hide hs
    rcases Nat.lt_or_ge 100 n with hn1 | hn1
    · have u1 : (100 : Int) < (n : Int) := by omega
      clear hs hn
      go_enter Try.func6, Try.ntmps6
      go_wp2_with (first
            | (go_at_call 17; go_must ((with_reducible refine (Small23_calls c ta tc _ true HS.out _ h1 h2).mono ?_); rintro e w1 ⟨rfl, hb1⟩; have hB1 := hb0.trans (hb1.mono hb0.size); have hz1 := hB1.size; have h3 := h1.belowN hb1; have h4 := h2.belowN hb1; have h5 := ht1.belowN hb1; have hX1 := hX.belowN hb1; have hx1 := (hat.belowN hb0).belowN hb1; obtain ⟨p0, p1, p2, p3, p4, p5, p6, p7, p8, p9, p10, p11⟩ := hX1.c6))
            | (go_at_call 18; (with_reducible refine (goes23_calls _).mono ?_); rintro e w8 ⟨rfl, hbel8⟩))
      go_ret
      exact ⟨rfl, hB1.trans (hbel8.mono hz1)⟩
    have u1 : ¬ ((100 : Int) < (n : Int)) := by omega
    by_cases hl0 : l < 0
    · clear hs hn
      go_enter Try.func6, Try.ntmps6
      go_wp2_with (first
            | (go_at_call 17; go_must ((with_reducible refine (Small23_calls c ta tc _ true HS.out _ h1 h2).mono ?_); rintro e w1 ⟨rfl, hb1⟩; have hB1 := hb0.trans (hb1.mono hb0.size); have hz1 := hB1.size; have h3 := h1.belowN hb1; have h4 := h2.belowN hb1; have h5 := ht1.belowN hb1; have hX1 := hX.belowN hb1; have hx1 := (hat.belowN hb0).belowN hb1; obtain ⟨p0, p1, p2, p3, p4, p5, p6, p7, p8, p9, p10, p11⟩ := hX1.c6))
            | (go_at_call 18; (with_reducible refine (goes23_calls _).mono ?_); rintro e w8 ⟨rfl, hbel8⟩))
      go_ret
      exact ⟨rfl, hB1.trans (hbel8.mono hz1)⟩
    by_cases hml : m < l
    · clear hs hn
      go_enter Try.func6, Try.ntmps6
      go_wp2_with (first
            | (go_at_call 17; go_must ((with_reducible refine (Small23_calls c ta tc _ true HS.out _ h1 h2).mono ?_); rintro e w1 ⟨rfl, hb1⟩; have hB1 := hb0.trans (hb1.mono hb0.size); have hz1 := hB1.size; have h3 := h1.belowN hb1; have h4 := h2.belowN hb1; have h5 := ht1.belowN hb1; have hX1 := hX.belowN hb1; have hx1 := (hat.belowN hb0).belowN hb1; obtain ⟨p0, p1, p2, p3, p4, p5, p6, p7, p8, p9, p10, p11⟩ := hX1.c6))
            | (go_at_call 18; (with_reducible refine (goes23_calls _).mono ?_); rintro e w8 ⟨rfl, hbel8⟩))
      go_ret
      exact ⟨rfl, hB1.trans (hbel8.mono hz1)⟩
    by_cases hm4 : 40 < m
    · clear hs hn
      go_enter Try.func6, Try.ntmps6
      go_wp2_with (first
            | (go_at_call 17; go_must ((with_reducible refine (Small23_calls c ta tc _ true HS.out _ h1 h2).mono ?_); rintro e w1 ⟨rfl, hb1⟩; have hB1 := hb0.trans (hb1.mono hb0.size); have hz1 := hB1.size; have h3 := h1.belowN hb1; have h4 := h2.belowN hb1; have h5 := ht1.belowN hb1; have hX1 := hX.belowN hb1; have hx1 := (hat.belowN hb0).belowN hb1; obtain ⟨p0, p1, p2, p3, p4, p5, p6, p7, p8, p9, p10, p11⟩ := hX1.c6))
            | (go_at_call 18; (with_reducible refine (goes23_calls _).mono ?_); rintro e w8 ⟨rfl, hbel8⟩))
      go_ret
      exact ⟨rfl, hB1.trans (hbel8.mono hz1)⟩
    obtain ⟨lN, rfl⟩ : ∃ lN : Nat, l = (lN : Int) := ⟨l.toNat, by omega⟩
    obtain ⟨mN, rfl⟩ : ∃ mN : Nat, m = (mN : Int) := ⟨m.toNat, by omega⟩
    by_cases hbad : c.bad = 0
    case neg =>
      obtain ⟨E, hE⟩ : ∃ E, c.bad = E := ⟨_, rfl⟩
      rw [hE] at hbad
      have HE := hide hE
      have HE0 := hide hbad
      have e1 : (E == 0) = false := by simpa using hbad
      have e2 : (E != 0) = true := by simpa using hbad
      clear hs hn hE hbad
      go_enter Try.func6, Try.ntmps6
      go_wp2_with (first
            | (go_at_call 17; go_must ((with_reducible refine (Small23_calls c ta tc _ true HS.out _ h1 h2).mono ?_); rintro e w1 ⟨rfl, hb1⟩; have hB1 := hb0.trans (hb1.mono hb0.size); have hz1 := hB1.size; have h3 := h1.belowN hb1; have h4 := h2.belowN hb1; have h5 := ht1.belowN hb1; have hX1 := hX.belowN hb1; have hx1 := (hat.belowN hb0).belowN hb1; obtain ⟨p0, p1, p2, p3, p4, p5, p6, p7, p8, p9, p10, p11⟩ := hX1.c6))
            | (go_at_call 28; go_must ((with_reducible refine (NewBad_calls c ta tc _ h3 (by omega) h4 (by omega) hx (by omega) E HE.out HE0.out).mono ?_); rintro e w2 ⟨rfl, hb2⟩; have hB2 := hB1.trans (hb2.mono hz1); have hz2 := hB2.size))
            | (go_at_call 18; (with_reducible refine (goes23_calls _).mono ?_); rintro e w8 ⟨rfl, hbel8⟩))
      go_ret
      exact ⟨rfl, hB2.trans (hbel8.mono hz2)⟩
    have hc := ChD.ok_of hbad
    by_cases hnx : (n : Int) = c.x
    case neg =>
      have e1 : ((n : Int) == c.x) = false := by simpa using hnx
      have e2 : ((n : Int) != c.x) = true := by simpa using hnx
      clear hs hn hnx
      go_enter Try.func6, Try.ntmps6
      go_wp2_with (first
            | (go_at_call 17; go_must ((with_reducible refine (Small23_calls c ta tc _ true HS.out _ h1 h2).mono ?_); rintro e w1 ⟨rfl, hb1⟩; have hB1 := hb0.trans (hb1.mono hb0.size); have hz1 := hB1.size; have h3 := h1.belowN hb1; have h4 := h2.belowN hb1; have h5 := ht1.belowN hb1; have hX1 := hX.belowN hb1; have hx1 := (hat.belowN hb0).belowN hb1; obtain ⟨p0, p1, p2, p3, p4, p5, p6, p7, p8, p9, p10, p11⟩ := hX1.c6))
            | (go_at_call 28; go_must ((with_reducible refine (NewGood_calls c ta tc _ h3 (by omega) h4 (by omega) h5 hx (by omega) hbad).mono ?_); rintro e w2 ⟨g, rfl, hch, hg, hb2⟩; have hB2 := hB1.trans (hb2.mono hz1); have hz2 := hB2.size; have hX2 := hX1.belowN hb2; have q1 := h3.belowN hb2; have q2 := h4.belowN hb2; have q3 := h5.belowN hb2; have hx2 := hx1.belowN hb2; obtain ⟨r0, r1, r2, r3, r4, r5, r6, r7, r8, r9, r10, r11⟩ := hX2.c6))
            | (go_at_call 18; (with_reducible refine (goes23_calls _).mono ?_); rintro e w8 ⟨rfl, hbel8⟩))
      go_ret
      exact ⟨rfl, hB2.trans (hbel8.mono hz2)⟩
    have e1 : ((n : Int) == c.x) = true := by simpa using hnx
    have e2 : ((n : Int) != c.x) = false := by simpa using hnx
    have HN := hide hn
    have HNX := hide hnx
    have HLS := hide (ChD.states_len hc (xs := xs) (by rw [← hn]; exact hnx) lN)
    have HLEN := hide (fun j => show n = (c.iter xs j).length by have := ChD.iter_length hc (xs := xs) (by rw [← hn]; exact hnx) j; omega)
    have HSL := hide (c.states_length xs lN).symm
    have HSM := hide (c.states_length xs mN)
    have HTK := hide (c.states_take xs (l := lN) (m := mN) (by omega))
    have HAT := hide (fun j (hj : j ≤ mN) => c.states_at xs mN (k := j) hj)
    have hlm : lN + 1 ≤ mN + 1 := by omega
    have hlm2 : (lN : Int) + 1 ≤ (mN : Int) + 1 := by omega
    have hm40 : mN ≤ 40 := by omega
    clear hs hn hnx
    go_enter Try.func6, Try.ntmps6
    go_wp2_with (first
            | (go_at_call 17; go_must ((with_reducible refine (Small23_calls c ta tc _ true HS.out _ h1 h2).mono ?_); rintro e w1 ⟨rfl, hb1⟩; have hB1 := hb0.trans (hb1.mono hb0.size); have hz1 := hB1.size; have h3 := h1.belowN hb1; have h4 := h2.belowN hb1; have h5 := ht1.belowN hb1; have hX1 := hX.belowN hb1; have hx1 := (hat.belowN hb0).belowN hb1; obtain ⟨p0, p1, p2, p3, p4, p5, p6, p7, p8, p9, p10, p11⟩ := hX1.c6))
            | (go_at_call 28; go_must ((with_reducible refine (NewGood_calls c ta tc _ h3 (by omega) h4 (by omega) h5 hx (by omega) hbad).mono ?_); rintro e w2 ⟨g, rfl, hch, hg, hb2⟩; have hB2 := hB1.trans (hb2.mono hz1); have hz2 := hB2.size; have hX2 := hX1.belowN hb2; have q1 := h3.belowN hb2; have q2 := h4.belowN hb2; have q3 := h5.belowN hb2; have hx2 := hx1.belowN hb2; obtain ⟨r0, r1, r2, r3, r4, r5, r6, r7, r8, r9, r10, r11⟩ := hX2.c6))
            | (go_at_call 24; first
                | (have hgd := hL3; go_must ((with_reducible refine (StatesGood_calls g c hc mN (by omega) a n k xs _ hch3 hx3 HN.out hnk HNX.out).mono ?_); rintro e w4 ⟨a4, c4, hs4, rfl, hL4, hb4⟩; have hB4 := hB3.trans (hb4.mono hz3); have hz4 := hB4.size; have hch4 := hch3.belowN hb4; have hS4 := (hL3.at_).belowN hb4; have HT4 := hide (HTK.out ▸ (hL4.at_.take (lN + 1))); have hcap4 := hL4.1.cap.1; have hc41 : mN + 1 ≤ c4 := by have := hL4.2.1; have := HSM.out; omega))
                | (go_must ((with_reducible refine (StatesGood_calls g c hc lN (by omega) a n k xs _ hch hx2 HN.out hnk HNX.out).mono ?_); rintro e w3 ⟨a3, c3, hs3, rfl, hL3, hb3⟩; have hB3 := hB2.trans (hb3.mono hz2); have hz3 := hB3.size; have hch3 := hch.belowN hb3; have hx3 := hx2.belowN hb3)))
            | (go_at_call 27; go_must ((refine (Lists23N a3 a4 c3 c4 (lN + 1) (lN + 1) (c.states xs lN) _ HSL.out HSL.out hS4 HT4.out (by omega) HLS.out).mono ?_); rintro e w7 ⟨rfl, q7, rfl⟩; have hd7 := below_drawn w4 w4.heap.size q7; have hB7 := hB4.trans (hd7.mono hz4); have hz7 := hB7.size)))
    have hT7 := (hL4.at_).belowN hd7
    have hch7 := hch4.belowN hd7
    have HSM1 := hide (show mN < (c.states xs mN).length by rw [HSM.out]; omega)
    obtain ⟨w5, hw5⟩ : ∃ w5, w4.drewN q7 = w5 := ⟨_, rfl⟩
    rw [hw5] at hd7 hB7 hz7 hT7 hch7 ⊢
    go_loopw [15] (fun tv wr => ∃ j : Nat, tv = .int .i64 j ∧ j ≤ mN ∧ Below w5.heap.size w5 wr) (fun tv _ => mN - (intOf tv).toNat)
    case atStart => exact ⟨0, rfl, by omega, Below.refl _ _⟩
    case round =>
      obtain ⟨j, rfl, hj, hbr⟩ := hrel
      have hzr := hbr.size
      by_cases hlt : j < mN
      · obtain ⟨b, off, ha, hcp, y, rfl, hxl, x0, hcap, hatl⟩ := hT7.get hbr (k := j) (by have := HSM1.out; omega)
        obtain ⟨b', off', ha2, hcp2, z, hbe, hxl2, x1, hcap2, hatl2⟩ := hT7.get hbr (k := j + 1) (by have := HSM.out; omega)
        simp at hbe
        obtain ⟨rfl, rfl⟩ := hbe
        obtain rfl : c.iter xs j = y := by have := (HAT.out j (by omega)).symm.trans hxl.out; simpa using this
        obtain rfl : c.iter xs (j + 1) = z := by have := (HAT.out (j + 1) (by omega)).symm.trans hxl2.out; simpa using this
        rw [← HLEN.out j] at x0 hcap
        rw [← HLEN.out (j + 1)] at x1 hcap2
        obtain ⟨v, hv⟩ : ∃ v : UInt64, v.toNat = j := ⟨UInt64.ofNat j, by rw [UInt64.toNat_ofNat', Nat.mod_eq_of_lt (by omega)]⟩
        have hvj : ((v.toNat : Nat) : Int) = (j : Int) := by rw [hv]
        have hST := StepGood_calls g c hc v ha n hcp (c.iter xs j) wr (hch7.belowN hbr) (hatl.belowN hbr) (HLEN.out j) hcap HNX.out (by omega) (c.iter xs (j + 1)) (by rw [ChD.iter, hvj])
        rw [hvj] at hST
        have HST := hide hST
        have hblt := World.block_lt_of_cell? _ _ x1
        have hatl2r := hatl2.belowN hbr
        clear hST hv hvj hxl hxl2
        go_wp2_with (first
          | (go_at_call 20; go_must ((with_reducible refine (HST.out).mono ?_); rintro e w9 ⟨a9, k9, rfl, hk9, hat9, hf9, hb9⟩; obtain ⟨y0, _⟩ := bcell hb9; have y1 := (y0 b (off + (j + 1)) hblt).trans x1))
          | (go_at_call 16; go_must ((refine (Same23 a9 ha2 k9 hcp2 n (c.iter xs (j + 1)) _ (HLEN.out (j + 1)) hat9 (hatl2r.belowN hb9) (by omega)).mono ?_); rintro e w10 ⟨rfl, q10, rfl⟩)))
        go_roundw
        case rel => exact ⟨j + 1, by go_num, by omega, (hbr.trans (hb9.mono hzr)).trans (below_drawn w9 w5.heap.size q10)⟩
        case measure => simp [intOf]; omega
      · obtain rfl : mN = j := by omega
        go_wp2_with (first
            | (go_at_call 18; (with_reducible refine (goes23_calls _).mono ?_); rintro e w8 ⟨rfl, hbel8⟩))
        go_ret
        exact ⟨rfl, (hB7.trans (hbr.mono hz7)).trans (hbel8.mono (Nat.le_trans hz7 hzr))⟩
end Go.Proofs.Ytibecjbbnpjgfaa
