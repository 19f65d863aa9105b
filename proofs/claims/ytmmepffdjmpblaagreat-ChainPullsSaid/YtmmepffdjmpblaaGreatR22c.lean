/- Chapter 22, the document's answers: Pull, every case. -/
import Derived.Test.YtmmepffdjmpblaaGreatR22b
namespace Go.Proofs.YtmmepffdjmpblaaGreat
set_option linter.unusedVariables false
set_option linter.unusedSimpArgs false
open Go.RowKit
set_option maxRecDepth 100000 in
set_option maxHeartbeats 1600000 in
theorem RPull_dims (nr : Nat) (a : Option Addr) (c : Nat) (f : Fo) (g : Good nr f) (ra : Option Addr) (rn rc : Nat) (wa : Option Addr) (wn wc : Nat) (w : World) (h : At w a f.flat) (b1 : rn ≤ 1000000) (b2 : wn ≤ 1000000) (hd : (nr : Int) < (rn : Int) ∨ (nr : Int) < (wn : Int)) :
    Calls Tryz.prog 23 #[.agg #[.int .i64 (nr : Int), .slice a f.flat.length c], .slice ra rn rc, .slice wa wn wc] w fun e w' => e = .returned (.tuple #[.slice none 0 0, .int .i64 10]) ∧ Below w.heap.size w w' := by
  have hb0 := below_new12 w (.cells #[.int .i64 (nr : Int), .slice a f.flat.length c] 24)
  have hX := Blk.new w 24 #[.int .i64 (nr : Int), .slice a f.flat.length c]
  have hl : f.flat.length ≤ 4096 := g.len
  have g1 := h.belowN hb0
  have r2 : nr ≤ 64 := by have := g.r2; omega
  have HP := hide (Unroll12R nr a c f.flat _ f.unroll 0 (unrS_good g) g.check g1 (by omega))
  have hul : f.unroll.length ≤ 65536 := by rw [Fo.unroll_length]; exact g.few
  generalize f.unroll = U at *
  clear g
  by_cases hm : (nr : Int) < (rn : Int)
  · clear hd
    go_enter Tryz.func23, Tryz.ntmps23
    go_wp2_with (go_at_call 46; go_must ((with_reducible refine (HP.out).mono ?_); rintro e w2 ⟨a2, c2, rfl, hown2, hC2⟩; obtain ⟨q0, q1, q2, q3⟩ := (hX.belowN hC2).c2))
    all_goals
      go_ret2
      exact ⟨rfl, hb0.trans (hC2.mono hb0.size)⟩
  · have hq : (nr : Int) < (wn : Int) := by omega
    have hm2 : (rn : Int) ≤ (nr : Int) := by omega
    clear hd hm
    go_enter Tryz.func23, Tryz.ntmps23
    go_wp2_with (go_at_call 46; go_must ((with_reducible refine (HP.out).mono ?_); rintro e w2 ⟨a2, c2, rfl, hown2, hC2⟩; obtain ⟨q0, q1, q2, q3⟩ := (hX.belowN hC2).c2))
    all_goals
      go_ret2
      exact ⟨rfl, hb0.trans (hC2.mono hb0.size)⟩
set_option maxRecDepth 100000 in
set_option maxHeartbeats 800000 in
theorem RPull_bad (regs : Int) (a : Option Addr) (c : Nat) (l : List OpD) (ra : Option Addr) (rn rc : Nat) (wa : Option Addr) (wn wc : Nat) (w : World) (h : At w a l) (hl : l.length ≤ 1000000) (hc : checkS regs l ≠ 0) :
    Calls Tryz.prog 23 #[.agg #[.int .i64 regs, .slice a l.length c], .slice ra rn rc, .slice wa wn wc] w fun e w' => e = .returned (.tuple #[.slice none 0 0, .int .i64 (checkS regs l)]) ∧ Below w.heap.size w w' := by
  have hb0 := below_new12 w (.cells #[.int .i64 regs, .slice a l.length c] 24)
  have hX := Blk.new w 24 #[.int .i64 regs, .slice a l.length c]
  have g1 := h.belowN hb0
  obtain ⟨E, hE⟩ : ∃ E, checkS regs l = E := ⟨_, rfl⟩
  have HP := hide (Unroll12R regs a c l _ _ E rfl hE g1 hl)
  rw [hE] at hc ⊢
  have e1 : (E == 0) = false := by simpa using hc
  have e2 : (E != 0) = true := by simpa using hc
  clear hE hc
  go_enter Tryz.func23, Tryz.ntmps23
  go_wp2_with (go_at_call 46; go_must ((with_reducible refine (HP.out).mono ?_); rintro e w2 ⟨a2, c2, rfl, hown2, hC2⟩; obtain ⟨q0, q1, q2, q3⟩ := (hX.belowN hC2).c2))
  go_ret2
  exact ⟨rfl, hb0.trans (hC2.mono hb0.size)⟩
theorem RPull_calls (regs : Int) (a : Option Addr) (c ln : Nat) (l : List OpD) (hln : ln = l.length) (ra : Option Addr) (rn rc : Nat) (r : List UInt64) (hrn : rn = r.length) (wa : Option Addr) (wn wc : Nat) (w0 : List UInt64) (hwn : wn = w0.length) (A : List UInt64) (E : Int) (hA : pullA regs l r w0 = A) (hE : pullE regs l rn wn = E) (w : World) (h : At w a l) (hl : ln ≤ 1000000) (hr : At w ra r) (hw : At w wa w0) (b1 : rn ≤ 1000000) (b2 : wn ≤ 1000000) :
    Calls Tryz.prog 23 #[.agg #[.int .i64 regs, .slice a ln c], .slice ra rn rc, .slice wa wn wc] w fun e w' => ∃ a' c', e = .returned (.tuple #[.slice a' A.length c', .int .i64 E]) ∧ Own w' w.heap.size 50 a' c' A ∧ Below w.heap.size w w' := by
  subst hln hA hE
  by_cases hc : pullE regs l rn wn = 0
  · rw [hc]
    obtain ⟨f, rfl, g, hn, hm⟩ := pull_good hc
    obtain ⟨nr, rfl⟩ : ∃ nr : Nat, regs = nr := ⟨regs.toNat, by have := g.r1; omega⟩
    rw [pullA_good g (by omega) (by omega)]
    refine (RPull_good nr a c f g ra rn rc r hrn wa wn wc w0 hwn w h hr hw (by omega) (by omega)).mono ?_
    rintro e w' ⟨a', c', rfl, o, hb⟩
    refine ⟨a', c', ?_, o, hb⟩
    rw [Int.toNat_natCast, backA_length, startR_length _ _ (by omega)]
  · rw [pullA_bad (by rw [← hrn, ← hwn]; exact hc)]
    have key : Calls Tryz.prog 23 #[.agg #[.int .i64 regs, .slice a l.length c], .slice ra rn rc, .slice wa wn wc] w fun e w' => e = .returned (.tuple #[.slice none 0 0, .int .i64 (pullE regs l rn wn)]) ∧ Below w.heap.size w w' := by
      by_cases h0 : checkS regs l = 0
      · obtain ⟨f, rfl, g⟩ := good_of_check h0
        obtain ⟨nr, rfl⟩ : ∃ nr : Nat, regs = nr := ⟨regs.toNat, by have := g.r1; omega⟩
        have hd : (nr : Int) < (rn : Int) ∨ (nr : Int) < (wn : Int) := Classical.byContradiction fun hd => hc (pull_of_good g (by omega) (by omega))
        rw [pullE_dims g hd]
        exact RPull_dims nr a c f g ra rn rc wa wn wc w h b1 b2 hd
      · rw [pullE_bad h0]
        exact RPull_bad regs a c l ra rn rc wa wn wc w h hl h0
    refine key.mono ?_
    rintro e w' ⟨rfl, hb⟩
    exact ⟨none, 0, rfl, Own.none _ _ _, hb⟩
end Go.Proofs.YtmmepffdjmpblaaGreat
