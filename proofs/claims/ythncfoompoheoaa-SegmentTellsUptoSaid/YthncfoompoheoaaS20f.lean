/- Chapter 20: what must come at any rate. -/
import Derived.Test.YthncfoompoheoaaS20e
import Derived.Test.YthncfoompoheoaaQb
import Derived.Test.YthncfoompoheoaaQn
namespace Go.Proofs.Ythncfoompoheoaa
set_option linter.unusedVariables false
set_option linter.unusedSimpArgs false
open Go.RowKit
theorem SegmentN (regs : Int) (a : Option Addr) (c ln : Nat) (l : List OpD) (hln : ln = l.length) (i : Int) (ra : Option Addr) (rn rc : Nat) (rs : List Int) (hrn : rn = rs.length) (hrs : ∀ r ∈ rs, -9223372036854775808 ≤ r ∧ r ≤ 9223372036854775807) (V U E : Int) (hV : segS regs l i rs = (V, U, E)) (w : World) (h : At w a l) (hl : ln ≤ 1000000) (hr : At w ra rs) (hrl : rn ≤ 1000000) :
    Calls Try.prog 22 #[.agg #[.int .i64 regs, .slice a ln c], .int .i64 i, .slice ra rn rc] w fun e w' => e = .returned (.tuple #[.int .i64 V, .int .i64 U, .int .i64 E]) ∧ Below w.heap.size w w' := by
  subst hln; exact Segment_calls regs a c l i ra rn rc rs hrn hrs V U E hV w h hl hr hrl
theorem PlaceN (regs : Int) (a : Option Addr) (c ln : Nat) (l : List OpD) (hln : ln = l.length) (i : Int) (ra : Option Addr) (rn rc : Nat) (rs : List Int) (hrn : rn = rs.length) (hrs : ∀ r ∈ rs, -9223372036854775808 ≤ r ∧ r ≤ 9223372036854775807) (V E : Int) (hV : placeS regs l i rs = (V, E)) (w : World) (h : At w a l) (hl : ln ≤ 1000000) (hr : At w ra rs) (hrl : rn ≤ 1000000) :
    Calls Try.prog 17 #[.agg #[.int .i64 regs, .slice a ln c], .int .i64 i, .slice ra rn rc] w fun e w' => e = .returned (.tuple #[.int .i64 V, .int .i64 E]) ∧ Below w.heap.size w w' := by
  subst hln; exact Place_calls regs a c l i ra rn rc rs hrn hrs V E hV w h hl hr hrl
theorem AtSN (regs : Int) (a : Option Addr) (c ln : Nat) (l : List OpD) (hln : ln = l.length) (n : Int) (I : Int) (Z : List Int) (zn : Nat) (hzn : zn = Z.length) (E : Int) (hV : atS regs l n = (I, Z, E)) (w : World) (h : At w a l) (hl : ln ≤ 1000000) :
    Calls Try.prog 19 #[.agg #[.int .i64 regs, .slice a ln c], .int .i64 n] w fun e w' => ∃ ra rc, e = .returned (.tuple #[.int .i64 I, .slice ra zn rc, .int .i64 E]) ∧ Own w' w.heap.size 3 ra rc Z ∧ Below w.heap.size w w' := by
  subst hln; exact At_calls regs a c l n I Z zn hzn E hV w h hl
def ex20 : Fo := .leaf ⟨4, 0, 0, 0, 0⟩ (.rep ⟨7, 0, 0, 0, 3⟩ (.leaf ⟨4, 0, 0, 0, 0⟩ (.rep ⟨7, 0, 0, 0, 2⟩ (.leaf ⟨4, 0, 0, 0, 0⟩ .nil) ⟨0, 0, 0, 0, 0⟩ .nil)) ⟨0, 0, 0, 0, 0⟩ .nil)
theorem ex20_good : Good 1 ex20 := good_of_lit (by simp [ex20, Fo.ok]) (by decide)
theorem ex20_place : placeS 1 ex20.flat 4 [1, 1] = (6, 0) := by
  unfold placeS
  rw [if_neg (by rw [ex20_good.check]; simp), if_neg (by decide), fo_flat ex20_good.ok]
  decide
theorem ex20_at : atS 1 ex20.flat 6 = (4, [1, 1], 0) := by
  unfold atS
  rw [if_neg (by rw [ex20_good.check]; simp), fo_flat ex20_good.ok]
  decide
theorem ex20_seg : segS 1 ex20.flat 1 [2] = (7, 10, 0) := by
  unfold segS
  rw [if_neg (by rw [ex20_good.check]; simp), if_neg (by decide), fo_flat ex20_good.ok]
  decide
set_option maxRecDepth 100000 in
set_option maxHeartbeats 3200000 in
theorem goes20_calls (w : World) : Calls Try.prog 16 #[] w fun e w' => e = .returned (.bool true) ∧ Below w.heap.size w w' := by
  have hN := Blk.new w 99 #[.int .i64 4, .int .i64 0, .int .i64 0, .int .i64 0, .int .u64 0]
  obtain ⟨n0, n1, n2, n3, n4, n5, n6, n7, n8, n9⟩ := hN.c5
  obtain ⟨ww, hww⟩ : ∃ ww, ww = w.alloc (.cells #[.int .i64 4, .int .i64 0, .int .i64 0, .int .i64 0, .int .u64 0] 99) := ⟨_, rfl⟩
  have hBW := below_new12 w (.cells #[.int .i64 4, .int .i64 0, .int .i64 0, .int .i64 0, .int .u64 0] 99)
  rw [← hww] at hBW
  have hzw : ww.heap.size = w.heap.size + 1 := by rw [hww]; simp
  have hx0 : At (ww.alloc (.cells #[.int .i64 4, .int .i64 0, .int .i64 0, .int .i64 0, .int .u64 0, .int .i64 7, .int .i64 0, .int .i64 0, .int .i64 0, .int .u64 3, .int .i64 4, .int .i64 0, .int .i64 0, .int .i64 0, .int .u64 0, .int .i64 7, .int .i64 0, .int .i64 0, .int .i64 0, .int .u64 2, .int .i64 4, .int .i64 0, .int .i64 0, .int .i64 0, .int .u64 0, .int .i64 0, .int .i64 0, .int .i64 0, .int .i64 0, .int .u64 0, .int .i64 0, .int .i64 0, .int .i64 0, .int .i64 0, .int .u64 0] 99)) (some ⟨ww.heap.size, 0, none⟩) ex20.flat := At.ofBlk (Blk.new ww _ #[.int .i64 4, .int .i64 0, .int .i64 0, .int .i64 0, .int .u64 0, .int .i64 7, .int .i64 0, .int .i64 0, .int .i64 0, .int .u64 3, .int .i64 4, .int .i64 0, .int .i64 0, .int .i64 0, .int .u64 0, .int .i64 7, .int .i64 0, .int .i64 0, .int .i64 0, .int .u64 2, .int .i64 4, .int .i64 0, .int .i64 0, .int .i64 0, .int .u64 0, .int .i64 0, .int .i64 0, .int .i64 0, .int .i64 0, .int .u64 0, .int .i64 0, .int .i64 0, .int .i64 0, .int .i64 0, .int .u64 0]) ex20.flat rfl
  have hB0 := hBW.trans ((below_new12 ww (.cells #[.int .i64 4, .int .i64 0, .int .i64 0, .int .i64 0, .int .u64 0, .int .i64 7, .int .i64 0, .int .i64 0, .int .i64 0, .int .u64 3, .int .i64 4, .int .i64 0, .int .i64 0, .int .i64 0, .int .u64 0, .int .i64 7, .int .i64 0, .int .i64 0, .int .i64 0, .int .u64 2, .int .i64 4, .int .i64 0, .int .i64 0, .int .i64 0, .int .u64 0, .int .i64 0, .int .i64 0, .int .i64 0, .int .i64 0, .int .u64 0, .int .i64 0, .int .i64 0, .int .i64 0, .int .i64 0, .int .u64 0] 99)).mono hBW.size)
  obtain ⟨w0, hw0⟩ : ∃ w0, w0 = ww.alloc (.cells #[.int .i64 4, .int .i64 0, .int .i64 0, .int .i64 0, .int .u64 0, .int .i64 7, .int .i64 0, .int .i64 0, .int .i64 0, .int .u64 3, .int .i64 4, .int .i64 0, .int .i64 0, .int .i64 0, .int .u64 0, .int .i64 7, .int .i64 0, .int .i64 0, .int .i64 0, .int .u64 2, .int .i64 4, .int .i64 0, .int .i64 0, .int .i64 0, .int .u64 0, .int .i64 0, .int .i64 0, .int .i64 0, .int .i64 0, .int .u64 0, .int .i64 0, .int .i64 0, .int .i64 0, .int .i64 0, .int .u64 0] 99) := ⟨_, rfl⟩
  have hz0 : w0.heap.size = w.heap.size + 2 := by rw [hw0]; simp [hzw]
  rw [← hw0] at hx0 hB0
  rw [hzw] at hx0
  have hx1 := hx0.belowN (below_new12 w0 (.cells #[.int .i64 1, .slice (some ⟨w.heap.size + 1, 0, none⟩) 7 7] 24))
  have hX1 := Blk.new w0 24 #[.int .i64 1, .slice (some ⟨w.heap.size + 1, 0, none⟩) 7 7]
  have hB1 := hB0.trans ((below_new12 w0 (.cells #[.int .i64 1, .slice (some ⟨w.heap.size + 1, 0, none⟩) 7 7] 24)).mono hB0.size)
  obtain ⟨w1, hw1⟩ : ∃ w1, w1 = w0.alloc (.cells #[.int .i64 1, .slice (some ⟨w.heap.size + 1, 0, none⟩) 7 7] 24) := ⟨_, rfl⟩
  have hz01 : w1.heap.size = w.heap.size + 3 := by rw [hw1]; simp [hz0]
  rw [← hw1] at hx1 hX1 hB1
  rw [hz0] at hX1
  have H11 := hide (show ∀ W : World, At (W.alloc (.cells #[.int .i64 1, .int .i64 1] 3)) (some ⟨W.heap.size, 0, none⟩) [(1 : Int), 1] from fun W => At.ofBlk (Blk.new W _ #[.int .i64 1, .int .i64 1]) [(1 : Int), 1] rfl)
  have H2 := hide (show ∀ W : World, At (W.alloc (.cells #[.int .i64 2] 3)) (some ⟨W.heap.size, 0, none⟩) [(2 : Int)] from fun W => At.ofBlk (Blk.new W _ #[.int .i64 2]) [(2 : Int)] rfl)
  have hL1 : At (w1.alloc (.cells #[.int .i64 1, .int .i64 1] 3)) (some ⟨w.heap.size + 3, 0, none⟩) [(1 : Int), 1] := by rw [← hz01]; exact H11.out w1
  have hy1 := hx1.belowN (below_new12 w1 (.cells #[.int .i64 1, .int .i64 1] 3))
  have hY1 := hX1.belowN (below_new12 w1 (.cells #[.int .i64 1, .int .i64 1] 3))
  have hC1 := hB1.trans ((below_new12 w1 (.cells #[.int .i64 1, .int .i64 1] 3)).mono hB1.size)
  obtain ⟨w2, hw2⟩ : ∃ w2, w2 = w1.alloc (.cells #[.int .i64 1, .int .i64 1] 3) := ⟨_, rfl⟩
  rw [← hw2] at hL1 hy1 hY1 hC1
  have HW2 : Hid (((((w.alloc (.cells #[.int .i64 4, .int .i64 0, .int .i64 0, .int .i64 0, .int .u64 0] 99)).alloc (.cells #[.int .i64 4, .int .i64 0, .int .i64 0, .int .i64 0, .int .u64 0, .int .i64 7, .int .i64 0, .int .i64 0, .int .i64 0, .int .u64 3, .int .i64 4, .int .i64 0, .int .i64 0, .int .i64 0, .int .u64 0, .int .i64 7, .int .i64 0, .int .i64 0, .int .i64 0, .int .u64 2, .int .i64 4, .int .i64 0, .int .i64 0, .int .i64 0, .int .u64 0, .int .i64 0, .int .i64 0, .int .i64 0, .int .i64 0, .int .u64 0, .int .i64 0, .int .i64 0, .int .i64 0, .int .i64 0, .int .u64 0] 99)).alloc (.cells #[.int .i64 1, .slice (some ⟨w.heap.size + 1, 0, none⟩) 7 7] 24)).alloc (.cells #[.int .i64 1, .int .i64 1] 3)) = w2) := by show _ = _; rw [← hww, ← hw0, ← hw1, ← hw2]
  have hz2 := hC1.size
  have HP := hide ex20_place
  have HA := hide ex20_at
  have HS := hide ex20_seg
  clear hw0 hw1 hw2 hz0 hx0 hB0 hx1 hX1 hB1 hww hzw hBW hN
  go_enter Try.func16, Try.ntmps16
  go_wp2_with (first
    | (go_at_call 17; rw [HW2.out]; go_must ((with_reducible refine (PlaceN 1 _ 7 7 ex20.flat rfl 4 _ 2 2 [1, 1] rfl (by decide) 6 0 HP.out w2 hy1 (by omega) hL1 (by omega)).mono ?_); rintro e w3 ⟨rfl, hb3⟩; have hB3 := hC1.trans (hb3.mono hz2); have hz3 := hB3.size; have hY3 := hY1.belowN hb3; obtain ⟨q0, q1, q2, q3⟩ := hY3.c2; have hy3 := hy1.belowN hb3))
    | (go_at_call 19; go_must ((with_reducible refine (AtSN 1 _ 7 7 ex20.flat rfl 6 4 [1, 1] 2 rfl 0 HA.out _ hy3 (by omega)).mono ?_); rintro e w4 ⟨a4, c4, rfl, hown4, hb4⟩; have hB4 := hB3.trans (hb4.mono hz3); have hz4 := hB4.size; have hY4 := hY3.belowN hb4; obtain ⟨r0, r1, r2, r3⟩ := hY4.c2; have hn4 := below_new12 w4 (.cells #[.int .i64 2] 3); have hy4 := (hy3.belowN hb4).belowN hn4; have hown4' := hown4.belowN hn4; have hC4 := hB4.trans (hn4.mono hz4); have hz4' := hC4.size))
    | (go_at_call 22; go_must ((with_reducible refine (SegmentN 1 _ 7 7 ex20.flat rfl 1 _ 1 1 [2] rfl (by decide) 7 10 0 HS.out _ hy4 (by omega) (H2.out w4) (by omega)).mono ?_); rintro e w5 ⟨rfl, hb5⟩; have hB5 := hC4.trans (hb5.mono hz4'); have hz5 := hB5.size; have hown5 := (hown4'.belowN hb5).at_.belowN (below_new12 w5 (.cells #[.int .i64 1, .int .i64 1] 3))))
    | (go_at_call 21; go_must ((with_reducible refine (Ints7N _ _ 2 2 _ _ [1, 1] _ rfl rfl hown5 (H11.out w5) (by omega)).mono ?_); rintro e w6 ⟨rfl, q6, rfl⟩)))
  go_ret
  exact ⟨rfl, below_drewN (hB5.alloc hz5 _) _⟩
end Go.Proofs.Ythncfoompoheoaa
