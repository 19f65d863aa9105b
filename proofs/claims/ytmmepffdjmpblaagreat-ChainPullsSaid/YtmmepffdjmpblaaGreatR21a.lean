/- Chapter 21, the document's answers: Copy, Ready, Record, Undo. -/
import Derived.Test.YtmmepffdjmpblaaGreatT21d
import Derived.Test.YtmmepffdjmpblaaGreatQl
namespace Go.Proofs.YtmmepffdjmpblaaGreat
set_option linter.unusedVariables false
set_option linter.unusedSimpArgs false
open Go.RowKit

set_option maxHeartbeats 800000 in
theorem Copy21_calls (ra : Option Addr) (rc : Nat) (r : List UInt64) (w : World) (hr : At w ra r) (hrl : r.length ≤ 1000000) :
    Calls Tryz.prog 68 #[.slice ra r.length rc] w fun e w' => ∃ a' c', e = .returned (.slice a' r.length c') ∧ Own w' w.heap.size 50 a' c' r ∧ Below w.heap.size w w' := by
  go_enter Tryz.func68, Tryz.ntmps68
  go_wp2
  go_loopw [3, 4] (fun ov iv wr => ∃ (k : Nat) (ao : Option Addr) (co : Nat), iv = .int .i64 k ∧ k ≤ r.length ∧ ov = .slice ao k co ∧ Own wr w.heap.size 50 ao co (r.take k) ∧ Below w.heap.size w wr) (fun _ iv _ => r.length - (intOf iv).toNat)
  case atStart => exact ⟨0, _, 0, rfl, by omega, rfl, Own.new w (Nat.le_refl _) _ UInt64, Below.alloc (Below.refl _ _) (Nat.le_refl _) _⟩
  case round =>
    obtain ⟨k, ao, co, rfl, hk, rfl, hown, hb⟩ := hrel
    have hzr := hb.size
    by_cases hlt : k < r.length
    · obtain ⟨b1, off1, x, rfl, hx, c0⟩ := hr.getU hb hlt
      have HX := hide (show r.take k ++ [x] = r.take (k + 1) by rw [List.take_add_one, hx.out]; rfl)
      have HKL := hide (show k = (r.take k).length by simp; omega)
      go_wp2_with (at_builtin; refine wpList_push tyU hown x rfl rfl rfl rfl rfl rfl HKL.out hzr (by omega) ?_; intro a4 c4 w4 hown4 hg4 _)
      go_roundw
      case rel => exact ⟨k + 1, a4, c4, by go_num, by omega, rfl, by rw [← HX.out]; exact hown4, below_push hb hown hg4 hzr⟩
      case measure => simp [intOf]; omega
    · obtain rfl : k = r.length := by omega
      rw [List.take_length] at hown
      go_wp2
      go_ret
      exact ⟨ao, co, rfl, hown, hb⟩
set_option maxRecDepth 100000 in
set_option maxHeartbeats 1600000 in
theorem ready21_ok (regs : Int) (a : Option Addr) (c : Nat) (f : Fo) (g : Good regs f) (ra : Option Addr) (rn rc : Nat) (ta : Option Addr) (tn tc : Nat) (w : World) (h : At w a f.flat) (hrn : rn ≤ 1000000) (htn : tn ≤ 1000000) (hn : (rn : Int) = regs) (ht : f.unroll.length ≤ tn) :
    Calls Tryz.prog 67 #[.agg #[.int .i64 regs, .slice a f.flat.length c], .slice ra rn rc, .slice ta tn tc] w fun e w' => ∃ ac cc, e = .returned (.tuple #[.slice ac f.unroll.length cc, .int .i64 0]) ∧ Own w' w.heap.size 71 ac cc f.unroll ∧ Below w.heap.size w w' := by
  have hl : f.flat.length ≤ 4096 := g.len
  have h1 := h.belowN (below_new12 w (.cells #[.int .i64 regs, .slice a f.flat.length c] 24))
  have hb0 := below_new12 w (.cells #[.int .i64 regs, .slice a f.flat.length c] 24)
  have HP := hide (Unroll12R regs a c f.flat _ f.unroll 0 (unrS_good g) g.check h1 (by omega))
  have hul : f.unroll.length ≤ 65536 := by rw [Fo.unroll_length]; exact g.few
  obtain ⟨r1, r2⟩ : 1 ≤ regs ∧ regs ≤ 64 := ⟨g.r1, g.r2⟩
  generalize f.unroll = U at *
  clear g
  go_enter Tryz.func67, Tryz.ntmps67
  go_wp2_with (go_at_call 46; ((with_reducible refine (HP.out).mono ?_); rintro e w1 ⟨a1, c1, rfl, hown1, hb1⟩; have hbx := (Blk.new w 24 #[.int .i64 regs, .slice a f.flat.length c]).belowN hb1; obtain ⟨p0, p1, p2, p3⟩ := hbx.c2; have hB1 := hb0.trans (hb1.mono hb0.size)))
  go_ret2
  exact ⟨a1, c1, rfl, hown1.mono (by simp), hB1⟩
set_option maxRecDepth 100000 in
set_option maxHeartbeats 1600000 in
theorem ready21_full (regs : Int) (a : Option Addr) (c : Nat) (f : Fo) (g : Good regs f) (ra : Option Addr) (rn rc : Nat) (ta : Option Addr) (tn tc : Nat) (w : World) (h : At w a f.flat) (hrn : rn ≤ 1000000) (htn : tn ≤ 1000000) (hn : (rn : Int) = regs) (ht : ¬ f.unroll.length ≤ tn) :
    Calls Tryz.prog 67 #[.agg #[.int .i64 regs, .slice a f.flat.length c], .slice ra rn rc, .slice ta tn tc] w fun e w' => e = .returned (.tuple #[.slice none 0 0, .int .i64 15]) ∧ Below w.heap.size w w' := by
  have hl : f.flat.length ≤ 4096 := g.len
  have h1 := h.belowN (below_new12 w (.cells #[.int .i64 regs, .slice a f.flat.length c] 24))
  have hb0 := below_new12 w (.cells #[.int .i64 regs, .slice a f.flat.length c] 24)
  have HP := hide (Unroll12R regs a c f.flat _ f.unroll 0 (unrS_good g) g.check h1 (by omega))
  have hul : f.unroll.length ≤ 65536 := by rw [Fo.unroll_length]; exact g.few
  obtain ⟨r1, r2⟩ : 1 ≤ regs ∧ regs ≤ 64 := ⟨g.r1, g.r2⟩
  generalize f.unroll = U at *
  clear g
  go_enter Tryz.func67, Tryz.ntmps67
  go_wp2_with (go_at_call 46; ((with_reducible refine (HP.out).mono ?_); rintro e w1 ⟨a1, c1, rfl, hown1, hb1⟩; have hbx := (Blk.new w 24 #[.int .i64 regs, .slice a f.flat.length c]).belowN hb1; obtain ⟨p0, p1, p2, p3⟩ := hbx.c2; have hB1 := hb0.trans (hb1.mono hb0.size)))
  go_ret2
  exact ⟨rfl, hB1⟩
set_option maxRecDepth 100000 in
set_option maxHeartbeats 1600000 in
theorem ready21_dims (regs : Int) (a : Option Addr) (c : Nat) (f : Fo) (g : Good regs f) (ra : Option Addr) (rn rc : Nat) (ta : Option Addr) (tn tc : Nat) (w : World) (h : At w a f.flat) (hrn : rn ≤ 1000000) (htn : tn ≤ 1000000) (hn : ¬ (rn : Int) = regs) :
    Calls Tryz.prog 67 #[.agg #[.int .i64 regs, .slice a f.flat.length c], .slice ra rn rc, .slice ta tn tc] w fun e w' => e = .returned (.tuple #[.slice none 0 0, .int .i64 10]) ∧ Below w.heap.size w w' := by
  have hl : f.flat.length ≤ 4096 := g.len
  have h1 := h.belowN (below_new12 w (.cells #[.int .i64 regs, .slice a f.flat.length c] 24))
  have hb0 := below_new12 w (.cells #[.int .i64 regs, .slice a f.flat.length c] 24)
  have HP := hide (Unroll12R regs a c f.flat _ f.unroll 0 (unrS_good g) g.check h1 (by omega))
  have hul : f.unroll.length ≤ 65536 := by rw [Fo.unroll_length]; exact g.few
  obtain ⟨r1, r2⟩ : 1 ≤ regs ∧ regs ≤ 64 := ⟨g.r1, g.r2⟩
  generalize f.unroll = U at *
  clear g
  go_enter Tryz.func67, Tryz.ntmps67
  go_wp2_with (go_at_call 46; ((with_reducible refine (HP.out).mono ?_); rintro e w1 ⟨a1, c1, rfl, hown1, hb1⟩; have hbx := (Blk.new w 24 #[.int .i64 regs, .slice a f.flat.length c]).belowN hb1; obtain ⟨p0, p1, p2, p3⟩ := hbx.c2; have hB1 := hb0.trans (hb1.mono hb0.size)))
  go_ret2
  exact ⟨rfl, hB1⟩
set_option maxHeartbeats 800000 in
theorem ready21_bad (regs : Int) (a : Option Addr) (c : Nat) (l : List OpD) (ra : Option Addr) (rn rc : Nat) (ta : Option Addr) (tn tc : Nat) (w : World) (h : At w a l) (hl : l.length ≤ 1000000) (hc : checkS regs l ≠ 0) :
    Calls Tryz.prog 67 #[.agg #[.int .i64 regs, .slice a l.length c], .slice ra rn rc, .slice ta tn tc] w fun e w' => e = .returned (.tuple #[.slice none 0 0, .int .i64 (checkS regs l)]) ∧ Below w.heap.size w w' := by
  have h1 := h.belowN (below_new12 w (.cells #[.int .i64 regs, .slice a l.length c] 24))
  have hb0 := below_new12 w (.cells #[.int .i64 regs, .slice a l.length c] 24)
  obtain ⟨E, hE⟩ : ∃ E, checkS regs l = E := ⟨_, rfl⟩
  have HP := hide (Unroll12R regs a c l _ _ E rfl hE h1 hl)
  rw [hE] at hc ⊢
  have e1 : (E == 0) = false := by simpa using hc
  have e2 : (E != 0) = true := by simpa using hc
  clear hE hc
  go_enter Tryz.func67, Tryz.ntmps67
  go_wp2_with (go_at_call 46; ((with_reducible refine (HP.out).mono ?_); rintro e w1 ⟨a1, c1, rfl, hown1, hb1⟩))
  go_ret2
  exact ⟨rfl, hb0.trans (hb1.mono hb0.size)⟩
theorem ready21_err (regs : Int) (a : Option Addr) (c : Nat) (l : List OpD) (ra : Option Addr) (rn rc : Nat) (ta : Option Addr) (tn tc : Nat) (w : World) (h : At w a l) (hl : l.length ≤ 1000000) (hrn : rn ≤ 1000000) (htn : tn ≤ 1000000) (hc : readyS regs l rn tn ≠ 0) :
    Calls Tryz.prog 67 #[.agg #[.int .i64 regs, .slice a l.length c], .slice ra rn rc, .slice ta tn tc] w fun e w' => e = .returned (.tuple #[.slice none 0 0, .int .i64 (readyS regs l rn tn)]) ∧ Below w.heap.size w w' := by
  by_cases h0 : checkS regs l = 0
  · obtain ⟨f, rfl, g⟩ := good_of_check h0
    by_cases h1 : (rn : Int) = regs
    · have ht : ¬ f.unroll.length ≤ tn := fun ht => hc (ready_of_good g h1 ht)
      have e : readyS regs f.flat rn tn = 15 := by unfold readyS; rw [if_neg (by simpa using h0), if_neg (by simpa using h1), unrS_good g, if_pos (by omega)]
      rw [e]
      exact ready21_full regs a c f g ra rn rc ta tn tc w h hrn htn h1 ht
    · have e : readyS regs f.flat rn tn = 10 := by unfold readyS; rw [if_neg (by simpa using h0), if_pos h1]
      rw [e]
      exact ready21_dims regs a c f g ra rn rc ta tn tc w h hrn htn h1
  · have e : readyS regs l rn tn = checkS regs l := by unfold readyS; rw [if_pos h0]
    rw [e]
    exact ready21_bad regs a c l ra rn rc ta tn tc w h hl h0
end Go.Proofs.YtmmepffdjmpblaaGreat
