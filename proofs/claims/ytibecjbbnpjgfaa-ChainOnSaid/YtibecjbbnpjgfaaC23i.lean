/- Chapter 23: the document's states. -/
import Derived.Test.YtibecjbbnpjgfaaC23h
namespace Go.Proofs.Ytibecjbbnpjgfaa
set_option linter.unusedVariables false
set_option linter.unusedSimpArgs false
open Go.RowKit
theorem RStatesBad_calls (c : ChD) (ta : Option Addr) (tc : Nat) (t : Int) (a : Option Addr) (n k : Nat) (w : World) (hn : n ≤ 1000000) (E : Int) (hE : c.may t n = E) (h0 : E ≠ 0) :
    Calls Try.prog 25 #[.agg #[.int .i64 c.p.regs, .slice c.p.a c.p.l.length c.p.c, .int .i64 c.q.regs, .slice c.q.a c.q.l.length c.q.c, .int .i64 c.x, .slice ta c.th.length tc], .slice a n k, .int .i64 t] w fun e w' => e = .returned (.tuple #[.slice none 0 0, .int .i64 E]) ∧ Below w.heap.size w w' := by
  have hb0 := below_new w (.cells #[.int .i64 c.p.regs, .slice c.p.a c.p.l.length c.p.c, .int .i64 c.q.regs, .slice c.q.a c.q.l.length c.q.c, .int .i64 c.x, .slice ta c.th.length tc] 37)
  unfold ChD.may at hE
  by_cases ht : t < 0 ∨ 65536 ≤ t
  · rw [if_pos ht] at hE
    subst hE
    rcases ht with ht | ht
    · go_enter Try.func25, Try.ntmps25
      go_wp2
      go_ret2
      exact ⟨rfl, hb0⟩
    · have hq : ¬ (t < 0) := by omega
      go_enter Try.func25, Try.ntmps25
      go_wp2
      go_ret2
      exact ⟨rfl, hb0⟩
  · rw [if_neg ht] at hE
    have ht1 : ¬ (t < 0) := by omega
    have ht2 : ¬ (65536 ≤ t) := by omega
    by_cases hx : (n : Int) = c.x
    · rw [if_neg (by simpa using hx)] at hE
      exact absurd hE.symm h0
    · rw [if_pos hx] at hE
      subst hE
      have e1 : ((n : Int) != c.x) = true := by simpa using hx
      have e2 : ((n : Int) == c.x) = false := by simpa using hx
      clear hx
      go_enter Try.func25, Try.ntmps25
      go_wp2
      go_ret2
      exact ⟨rfl, hb0⟩
set_option maxRecDepth 100000 in
set_option maxHeartbeats 3200000 in
theorem RStatesGood_calls (c : ChD) (hc : c.Ok) (ta : Option Addr) (tc : Nat) (lN : Nat) (hl : lN < 65536) (a : Option Addr) (n k : Nat) (xs : List UInt64) (w : World) (h1 : At w c.p.a c.p.l) (h3 : At w ta c.th) (hat : At w a xs) (hn : n = xs.length) (hx : (n : Int) = c.x) :
    Calls Try.prog 25 #[.agg #[.int .i64 c.p.regs, .slice c.p.a c.p.l.length c.p.c, .int .i64 c.q.regs, .slice c.q.a c.q.l.length c.q.c, .int .i64 c.x, .slice ta c.th.length tc], .slice a n k, .int .i64 (lN : Int)] w fun e w' => ∃ a' c' hs, e = .returned (.tuple #[.slice a' (lN + 1) c', .int .i64 0]) ∧ OwnL w' w.heap.size 25 a' c' hs (c.states xs lN) ∧ Below w.heap.size w w' := by
  have hx2 := hc.x2
  have hx1 := hc.x1
  have ht2 := hc.t2
  have hn64 : n ≤ 64 := by omega
  have hn0 : 1 ≤ n := by omega
  have hlen : ∀ j, n = (c.iter xs j).length := fun j => by have := ChD.iter_length hc (xs := xs) (by rw [← hn]; exact hx) j; omega
  have HLEN := hide hlen
  obtain ⟨tn, htn⟩ : ∃ tn, c.th.length = tn := ⟨_, rfl⟩
  have hb0 := below_new w (.cells #[.int .i64 c.p.regs, .slice c.p.a c.p.l.length c.p.c, .int .i64 c.q.regs, .slice c.q.a c.q.l.length c.q.c, .int .i64 c.x, .slice ta c.th.length tc] 37)
  have hC := Blk.new w 37 #[.int .i64 c.p.regs, .slice c.p.a c.p.l.length c.p.c, .int .i64 c.q.regs, .slice c.q.a c.q.l.length c.q.c, .int .i64 c.x, .slice ta c.th.length tc]
  obtain ⟨w0, hw0⟩ : ∃ w0, w0 = w.alloc (.cells #[.int .i64 c.p.regs, .slice c.p.a c.p.l.length c.p.c, .int .i64 c.q.regs, .slice c.q.a c.q.l.length c.q.c, .int .i64 c.x, .slice ta c.th.length tc] 37) := ⟨_, rfl⟩
  rw [← hw0] at hb0 hC
  have hp0 := h1.belowN hb0
  have ht0 := h3.belowN hb0
  have HJ := hide (Joined_calls a none none k 0 0 n 0 0 xs [] [] w0 hn rfl rfl (hat.belowN hb0) (At.nil _ _) (At.nil _ _) (by omega) (by omega) (by omega))
  simp only [List.append_nil, Nat.add_zero] at HJ
  have e1 : ((n : Int) != c.x) = false := by simpa using hx
  have e2 : ((n : Int) == c.x) = true := by simpa using hx
  have hz0 : w0.heap.size = w.heap.size + 1 := by rw [hw0]; simp
  have HN := hide hn
  have HI0 : Hid (c.iter xs 0 = xs) := hide (by rw [ChD.iter])
  have hv1 : ¬ ((lN : Int) < 0) := by omega
  have hv2 : ¬ ((65536 : Int) ≤ (lN : Int)) := by omega
  have HTN := hide htn
  have HCT := hide hC
  rw [htn] at hC
  clear hn hlen
  go_enter Try.func25, Try.ntmps25
  rw [htn]
  rw [htn] at hw0
  go_wp2_with (go_at_call 53; (try rw [← hw0]); go_must ((refine (HJ.out).mono ?_); rintro e w1 ⟨a1, c1, rfl, hown1, hb1⟩; have hB1 := hb0.trans (hb1.mono hb0.size); have hz1 := hB1.size; obtain ⟨p0, p1, p2, p3, p4, p5, p6, p7, p8, p9, p10, p11⟩ := (hC.belowN hb1).c6))
  have hN1 := below_new w1 (.cells #[.slice a1 n c1] 25)
  have hL0 : OwnL (w1.alloc (.cells #[.slice a1 n c1] 25)) w0.heap.size 25 (some ⟨w1.heap.size, 0, none⟩) 1 [⟨a1, n, c1⟩] (c.firsts xs 1) := by
    have hf : c.firsts xs 1 = [xs] := by unfold ChD.firsts; simp [HI0.out]
    rw [hf]
    refine ⟨own_built (w := w1) [(⟨a1, n, c1⟩ : Hd)] rfl hb1.size (by simp), rfl, fun i h l e1 e2 => ?_⟩
    match i, e1, e2 with
    | 0, e1, e2 =>
      simp at e1 e2
      subst e1 e2
      refine ⟨HN.out, by rw [← HN.out]; have := hown1.cap.1; rw [← HN.out] at this; exact this, hown1.at_.belowN hN1, fun h0 => ?_⟩
      obtain ⟨g, off, rfl, hlt⟩ := hown1.at_.lt h0
      exact ⟨g, rfl, (hown1.blk g rfl).1, by simp; omega⟩
    | j + 1, e1, e2 => simp at e1
  have HL0 := hide hL0
  have hB01 : Below w0.heap.size w0 (w1.alloc (.cells #[.slice a1 n c1] 25)) := hb1.trans (hN1.mono hb1.size)
  clear hN1 hL0 hown1 p0 p1 p2 p3 p4 p5 p6 p7 p8 p9 p10 p11
  go_loopw [8, 9, 10, 11] (fun ov tv _ _ wr => ∃ (j : Nat) (ao : Option Addr) (co : Nat) (hs : List Hd), tv = .int .i64 j ∧ j ≤ lN ∧ ov = .slice ao (j + 1) co ∧ Hid (OwnL wr w0.heap.size 25 ao co hs (c.firsts xs (j + 1))) ∧ Below w0.heap.size w0 wr) (fun _ tv _ _ _ => lN - (intOf tv).toNat)
  case atStart => exact ⟨0, _, 1, _, rfl, by omega, rfl, HL0, hB01⟩
  case round =>
    obtain ⟨j, ao, co, hs, rfl, hj, rfl, hown, hbr⟩ := hrel
    have hzr := hbr.size
    by_cases hlt : j < lN
    · obtain ⟨p0, p1, p2, p3, p4, p5, p6, p7, p8, p9, p10, p11⟩ := (hC.belowN hbr).c6
      obtain ⟨b, off, ha, hcp, l, rfl, hxl, x0, hcap, hatl⟩ := hown.out.at_.get (Below.refl _ _) (k := j) (by rw [ChD.firsts_length]; omega)
      have hli : l = c.iter xs j := by
        have h9 := hxl.out
        unfold ChD.firsts at h9
        rw [List.getElem?_map, List.getElem?_range (by omega)] at h9
        simpa using h9.symm
      subst hli
      rw [← HLEN.out j] at x0
      obtain ⟨v, hv⟩ : ∃ v : UInt64, v.toNat = j := ⟨UInt64.ofNat j, by rw [UInt64.toNat_ofNat', Nat.mod_eq_of_lt (by omega)]⟩
      have hvj : ((v.toNat : Nat) : Int) = (j : Int) := by rw [hv]
      have hd0 : Below wr.heap.size wr wr.drew := Below.drew (Below.refl _ _)
      have hST := RStepGood_calls c hc ta tc v ha n hcp (c.iter xs j) wr.drew ((hp0.belowN hbr).belowN hd0) ((ht0.belowN hbr).belowN hd0) (hatl.belowN hd0) (HLEN.out j) hx (by omega) (c.iter xs (j + 1)) (by rw [ChD.iter, hvj])
      rw [hvj, HTN.out] at hST
      have HST := hide hST
      have HLJ := hide (show j + 1 = hs.length by rw [hown.out.2.1, ChD.firsts_length])
      have hblt := World.block_lt_of_cell? _ _ x0
      have k0 : (0 : Int) ≤ (j : Int) := by omega
      have k1 : (j : Int) < ((j + 1 : Nat) : Int) := by omega
      have k2 : (j : Int) < (j : Int) + 1 := by omega
      have k3 : (j : Int) < (lN : Int) := by omega
      clear hST hv hvj hxl hatl
      go_wp2
      go_region_held3 (fun w' => (w'.cell? ⟨w.heap.size, 0, none⟩ = some (.int .i64 c.p.regs) ∧ w'.cell? ⟨w.heap.size, 1, none⟩ = some (.slice c.p.a c.p.l.length c.p.c) ∧ w'.cell? ⟨w.heap.size, 2, none⟩ = some (.int .i64 c.q.regs) ∧ w'.cell? ⟨w.heap.size, 3, none⟩ = some (.slice c.q.a c.q.l.length c.q.c) ∧ w'.cell? ⟨w.heap.size, 4, none⟩ = some (.int .i64 c.x) ∧ w'.cell? ⟨w.heap.size, 5, none⟩ = some (.slice ta tn tc)) ∧ w'.cell? ⟨b, off + j, none⟩ = some (.slice ha n hcp)) (go_keep)
        ((go_at_call 21; go_must (refine (HST.out).mono ?_; rintro e w5 ⟨a5, k5, rfl, hk5, hat5, hfr5, hb5⟩; have hB5 := hd0.trans (hb5.mono hd0.size); have hz5 := hB5.size; obtain ⟨q0, q1, q2, q3, q4, q5, q6, q7, q8, q9, q10, q11⟩ := ((hC.belowN hbr).belowN hB5).c6; obtain ⟨y0, _⟩ := bcell hB5; have y2 := (y0 b (off + j) hblt).trans x0)))
      have hL5 := hown.out.belowN hB5
      have HL5 := hide hL5
      have hown5 := hL5.1
      have HFS := hide (c.firsts_succ xs (j + 1))
      have hz5' : w0.heap.size ≤ w5.heap.size := by omega
      have hne5 : c.iter xs (j + 1) ≠ [] → ∃ g, a5.map (·.block) = some g ∧ w0.heap.size ≤ g ∧ (some (⟨b, off, none⟩ : Addr)).map (·.block) ≠ some g := fun h0 => by
        obtain ⟨g, og, rfl, _⟩ := hat5.lt h0
        have h6 : wr.heap.size ≤ g := (hfr5 g rfl).1
        exact ⟨g, rfl, by omega, by simp; omega⟩
      have HNE := hide hne5
      clear hL5 hne5
      go_wp2_with (at_builtin; refine wpList_push tyUU hown5 (⟨a5, n, k5⟩ : Hd) rfl rfl rfl rfl rfl rfl HLJ.out hz5' (by omega) ?_; intro a6 c6 w6 hown6 hg6 hm6)
      go_roundw
      case rel =>
        have hB6 := below_push (hbr.trans (hB5.mono hzr)) hown5 hg6 hz5'
        rw [HLEN.out (j + 1)] at hown6
        have hp := HL5.out.push hat5 (by rw [← HLEN.out (j + 1)]; exact hk5) HNE.out hown6 hg6 hm6
        exact ⟨j + 1, a6, c6, _, by go_num, by omega, rfl, hide (HFS.out ▸ hp), hB6⟩
      case measure => simp [intOf]; omega
    · obtain rfl : lN = j := by omega
      go_wp2
      go_ret2
      exact ⟨ao, co, hs, rfl, hown.out.mono (by omega), hb0.trans (hbr.mono hb0.size)⟩
end Go.Proofs.Ytibecjbbnpjgfaa
