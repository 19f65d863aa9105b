/- Chapter 21: what must come at any rate. -/
import Derived.RegionTactic
import Derived.BigRegion
import Derived.Deep.OwnRows
import Derived.Test.YthncfoompoheoaaT21e
import Derived.Test.YthncfoompoheoaaR21c
import Derived.Test.YthncfoompoheoaaQn
namespace Go.Proofs.Ythncfoompoheoaa
set_option linter.unusedVariables false
set_option linter.unusedSimpArgs false
open Go.RowKit

def ex21 : Fo := .rep ⟨7, 0, 0, 0, 3⟩ (.leaf ⟨3, 0, 0, 1, 0⟩ .nil) ⟨0, 0, 0, 0, 0⟩ .nil
theorem mk3 (W : World) : (Instr.makeSlice 43 (.int .i64 3) (.int .i64 3)).run Try.prog W = .ok (.slice (some ⟨W.heap.size, 0, none⟩) 3 3) (W.alloc (.cells #[.int .u64 0, .int .u64 0, .int .u64 0] 68)) := by
  have h := run_make_row' 43 68 (.int .u64 0) 8 Try.underlying43 (by kernel_rfl) rfl .i64 .i64 3 (by decide) (by decide) W
  rw [show madeCells #[Value.int .u64 0] 3 = #[.int .u64 0, .int .u64 0, .int .u64 0] by kernel_rfl] at h
  exact h
theorem Own.atN {w : World} {B : Nat} {E : TypeId} {a : Option Addr} {c : Nat} {l : List UInt64} (h : Own w B E a c l) {n : Nat} (hn : n = l.length) : n = l.length ∧ At w a l := ⟨hn, h.at_⟩
theorem RecordN (regs : Int) (a : Option Addr) (c ln : Nat) (l : List OpD) (hln : ln = l.length) (ra : Option Addr) (rc rn : Nat) (r : List UInt64) (hrn : rn = r.length) (Br : Nat) (ta : Option Addr) (tc tn : Nat) (t : List UInt64) (htn : tn = t.length) (Bt : Nat) (N E : Int) (R' T' : List UInt64)
    (hN : recN regs l rn tn = N) (hE : readyS regs l rn tn = E) (hR : recR regs l r t = R') (hT : recT regs l r t = T') (w : World) (h : At w a l) (hl : ln ≤ 1000000) (hr : Own w Br 68 ra rc r) (ht : Own w Bt 68 ta tc t)
    (hrl : rn ≤ 1000000) (htl : tn ≤ 1000000) (hne : ∀ q, ra.map (·.block) = some q → ta.map (·.block) ≠ some q) :
    Calls Try.prog 54 #[.agg #[.int .i64 regs, .slice a ln c], .slice ra rn rc, .slice ta tn tc] w fun e w' => e = .returned (.tuple #[.int .i64 N, .int .i64 E]) ∧ Own w' Br 68 ra rc R' ∧ Own w' Bt 68 ta tc T' ∧ Turned (blkL ra ++ blkL ta) w w' := by
  subst hln hrn htn hN hE hR hT
  exact Record_calls regs a c l ra rc r Br ta tc t Bt w h hl hr ht hrl htl hne
theorem WasN (regs : Int) (a : Option Addr) (c ln : Nat) (l : List OpD) (hln : ln = l.length) (ta : Option Addr) (tn tc : Nat) (t : List UInt64) (htn : tn = t.length) (i : Int) (ra : Option Addr) (rn rc : Nat) (rs : List Int) (hrn : rn = rs.length) (hrs : ∀ r ∈ rs, -9223372036854775808 ≤ r ∧ r ≤ 9223372036854775807) (V : UInt64) (E : Int) (hV : wasS regs l t i rs = (V, E)) (w : World) (h : At w a l) (hl : ln ≤ 1000000) (ht : At w ta t) (htl : tn ≤ 1000000) (hr : At w ra rs) (hrl : rn ≤ 1000000) :
    Calls Try.prog 41 #[.agg #[.int .i64 regs, .slice a ln c], .slice ta tn tc, .int .i64 i, .slice ra rn rc] w fun e w' => e = .returned (.tuple #[.int .u64 (V.toNat : Int), .int .i64 E]) ∧ Below w.heap.size w w' := by
  subst hln
  exact Was_calls regs a c l ta tn tc t htn i ra rn rc rs hrn hrs V E hV w h hl ht htl hr hrl
theorem ex21_good : Good 2 ex21 := good_of_lit (by simp [ex21, Fo.ok]) (by decide)
theorem ex21_unr : ex21.unroll = [⟨3, 0, 0, 1, 0⟩, ⟨3, 0, 0, 1, 0⟩, ⟨3, 0, 0, 1, 0⟩] := by decide
theorem ex21_ready : readyS 2 ex21.flat 2 3 = 0 := ready_of_good ex21_good (by decide) (by rw [ex21_unr]; decide)
theorem ex21_rec : recR 2 ex21.flat [5, 2] [0, 0, 0] = [40, 2] ∧ recT 2 ex21.flat [5, 2] [0, 0, 0] = [5, 10, 20] ∧ recN 2 ex21.flat 2 3 = 3 := by
  obtain ⟨e1, e2, e3, _⟩ := rec_good ex21_good (r := [5, 2]) (t := [0, 0, 0]) (by decide) (by rw [ex21_unr]; decide)
  rw [ex21_unr] at e1 e2 e3
  exact ⟨by rw [e1]; decide, by rw [e2]; decide, by exact e3.trans (by decide)⟩
theorem ex21_place : placeS 2 ex21.flat 1 [2] = (2, 0) := by
  unfold placeS
  rw [if_neg (by rw [ex21_good.check]; simp), if_neg (by decide), fo_flat ex21_good.ok]
  decide
theorem ex21_was : wasS 2 ex21.flat [5, 10, 20] 1 [2] = (20, 0) := by
  unfold wasS
  rw [ex21_place, unrS_good ex21_good, ex21_unr]
  decide
set_option maxRecDepth 100000 in
set_option maxHeartbeats 3200000 in
theorem goes21_calls (w : World) : Calls Try.prog 40 #[] w fun e w' => e = .returned (.bool true) ∧ Below w.heap.size w w' := by
  have hx0 : At (w.alloc (.cells #[.int .i64 7, .int .i64 0, .int .i64 0, .int .i64 0, .int .u64 3, .int .i64 3, .int .i64 0, .int .i64 0, .int .i64 1, .int .u64 0, .int .i64 0, .int .i64 0, .int .i64 0, .int .i64 0, .int .u64 0] 99)) (some ⟨w.heap.size, 0, none⟩) ex21.flat := At.ofBlk (Blk.new w _ #[.int .i64 7, .int .i64 0, .int .i64 0, .int .i64 0, .int .u64 3, .int .i64 3, .int .i64 0, .int .i64 0, .int .i64 1, .int .u64 0, .int .i64 0, .int .i64 0, .int .i64 0, .int .i64 0, .int .u64 0]) ex21.flat rfl
  have hB0 := below_new12 w (.cells #[.int .i64 7, .int .i64 0, .int .i64 0, .int .i64 0, .int .u64 3, .int .i64 3, .int .i64 0, .int .i64 0, .int .i64 1, .int .u64 0, .int .i64 0, .int .i64 0, .int .i64 0, .int .i64 0, .int .u64 0] 99)
  obtain ⟨w0, hw0⟩ : ∃ w0, w0 = w.alloc (.cells #[.int .i64 7, .int .i64 0, .int .i64 0, .int .i64 0, .int .u64 3, .int .i64 3, .int .i64 0, .int .i64 0, .int .i64 1, .int .u64 0, .int .i64 0, .int .i64 0, .int .i64 0, .int .i64 0, .int .u64 0] 99) := ⟨_, rfl⟩
  have hz0 : w0.heap.size = w.heap.size + 1 := by rw [hw0]; simp
  rw [← hw0] at hx0 hB0
  have hx1 := hx0.belowN (below_new12 w0 (.cells #[.int .i64 2, .slice (some ⟨w.heap.size, 0, none⟩) 3 3] 24))
  have hX1 := Blk.new w0 24 #[.int .i64 2, .slice (some ⟨w.heap.size, 0, none⟩) 3 3]
  have hB1 := hB0.trans ((below_new12 w0 (.cells #[.int .i64 2, .slice (some ⟨w.heap.size, 0, none⟩) 3 3] 24)).mono hB0.size)
  obtain ⟨w1, hw1⟩ : ∃ w1, w1 = w0.alloc (.cells #[.int .i64 2, .slice (some ⟨w.heap.size, 0, none⟩) 3 3] 24) := ⟨_, rfl⟩
  have hz1 : w1.heap.size = w.heap.size + 2 := by rw [hw1]; simp [hz0]
  rw [← hw1] at hx1 hX1 hB1
  rw [hz0] at hX1
  have HW1 : Hid (((w.alloc (.cells #[.int .i64 7, .int .i64 0, .int .i64 0, .int .i64 0, .int .u64 3, .int .i64 3, .int .i64 0, .int .i64 0, .int .i64 1, .int .u64 0, .int .i64 0, .int .i64 0, .int .i64 0, .int .i64 0, .int .u64 0] 99)).alloc (.cells #[.int .i64 2, .slice (some ⟨w.heap.size, 0, none⟩) 3 3] 24)) = w1) := by show _ = _; rw [← hw0, ← hw1]
  clear hw0 hw1 hz0 hx0 hB0
  have hmk := mk3
  go_enter Try.func40, Try.ntmps40
  go_wp2
  rw [HW1.out]
  go_region
  · have hR : Own ((w1.alloc (.cells #[.int .u64 5, .int .u64 2] 68)).alloc (.cells #[.int .u64 0, .int .u64 0, .int .u64 0] 68)).drew w.heap.size 68 (some ⟨w.heap.size + 2, 0, none⟩) 2 [(5 : UInt64), 2] := by
      have := ((Own.made w1 hB1.size 68 #[.int .u64 5, .int .u64 2] [(5 : UInt64), 2] rfl (by decide) 2 rfl).alloc (.cells #[.int .u64 0, .int .u64 0, .int .u64 0] 68)).drew
      rw [hz1] at this; exact this
    have hT : Own ((w1.alloc (.cells #[.int .u64 5, .int .u64 2] 68)).alloc (.cells #[.int .u64 0, .int .u64 0, .int .u64 0] 68)).drew w.heap.size 68 (some ⟨w.heap.size + 2 + 1, 0, none⟩) 3 [(0 : UInt64), 0, 0] := by
      have := (Own.made (w1.alloc (.cells #[.int .u64 5, .int .u64 2] 68)) (Nat.le_trans hB1.size (by simp)) 68 #[.int .u64 0, .int .u64 0, .int .u64 0] [(0 : UInt64), 0, 0] rfl (by decide) 3 rfl).drew
      simp only [World.size_alloc, hz1] at this; exact this
    have hBW := Below.drew (below2 w1 (.cells #[.int .u64 5, .int .u64 2] 68) (.cells #[.int .u64 0, .int .u64 0, .int .u64 0] 68))
    generalize ((w1.alloc (.cells #[.int .u64 5, .int .u64 2] 68)).alloc (.cells #[.int .u64 0, .int .u64 0, .int .u64 0] 68)).drew = W2 at *
    have hX2 := hX1.belowN hBW
    have hx2 := hx1.belowN hBW
    have hB2 := hB1.trans (hBW.mono hB1.size)
    have hzz := hBW.size
    obtain ⟨o0, o1, o2, o3⟩ := hX2.c2
    have h40 : ∀ W : World, At (W.alloc (.cells #[.int .u64 40, .int .u64 2] 68)) (some ⟨W.heap.size, 0, none⟩) [(40 : UInt64), 2] := fun W => At.ofBlk (Blk.new W _ #[.int .u64 40, .int .u64 2]) [(40 : UInt64), 2] rfl
    have h51 : ∀ W : World, At (W.alloc (.cells #[.int .u64 5, .int .u64 10, .int .u64 20] 68)) (some ⟨W.heap.size, 0, none⟩) [(5 : UInt64), 10, 20] := fun W => At.ofBlk (Blk.new W _ #[.int .u64 5, .int .u64 10, .int .u64 20]) [(5 : UInt64), 10, 20] rfl
    have h2 : ∀ W : World, At (W.alloc (.cells #[.int .i64 2] 3)) (some ⟨W.heap.size, 0, none⟩) [(2 : Int)] := fun W => At.ofBlk (Blk.new W _ #[.int .i64 2]) [(2 : Int)] rfl
    have H40 := hide h40
    have H51 := hide h51
    have H2 := hide h2
    clear h40 h51 h2
    have hzb : ∀ q, q ∈ [w.heap.size + 2, w.heap.size + 2 + 1] → w.heap.size ≤ q := by intro q hq; simp at hq; omega
    go_wp2_with (first
      | (go_at_call 54; go_must ((with_reducible refine (RecordN 2 _ 3 3 ex21.flat rfl _ 2 2 [5, 2] rfl w.heap.size _ 3 3 [0, 0, 0] rfl w.heap.size 3 0 [40, 2] [5, 10, 20] ex21_rec.2.2 ex21_ready ex21_rec.1 ex21_rec.2.1 _ hx2 (by omega) hR hT (by omega) (by omega) (fun q hq => by simp at hq; simp <;> omega)).mono ?_); rintro e w3 ⟨rfl, hR3, hT3, hTu⟩; have hB3 := hTu.below hB2 (fun q hq => hzb q (by simpa [blkL] using hq)) hB2.size; have hz3 := hB3.size; have hX3 : Blk w3 _ _ _ := (hTu.block _ hX2.lt (by simp [blkL] <;> omega)).trans hX2; have hx3 := hx2.turned hTu (fun _ q hq => by simp [blkL] at hq; simp <;> omega); obtain ⟨q0, q1, q2, q3⟩ := hX3.c2; have hn3 := below_new12 w3 (.cells #[.int .i64 2] 3); have hx3' := hx3.belowN hn3; have hT3' := hT3.belowN hn3; have hR3' := hR3.belowN hn3; have hC3 := hB3.trans (hn3.mono hz3)))
      | (go_at_call 41; go_must ((with_reducible refine (WasN 2 _ 3 3 ex21.flat rfl _ 3 3 [5, 10, 20] rfl 1 _ 1 1 [2] rfl (by decide) 20 0 ex21_was _ hx3' (by decide) hT3'.at_ (by omega) (H2.out w3) (by omega)).mono ?_); rintro e w4 ⟨rfl, hb4⟩; have hB4 := hC3.trans (hb4.mono hC3.size); have hR4 := (hR3'.belowN hb4).at_.belowN (below_new12 w4 (.cells #[.int .u64 40, .int .u64 2] 68)); have hT4 := hT3'.belowN hb4))
      | (go_at_call 27; first
          | ((with_reducible refine (Same5N _ _ 3 3 _ _ [5, 10, 20] _ rfl rfl hT5 (H51.out w5) (by omega)).mono ?_); rintro e w6 ⟨rfl, q6, rfl⟩)
          | go_must ((with_reducible refine (Same5N _ _ 2 2 _ _ [40, 2] _ rfl rfl hR4 (H40.out w4) (by omega)).mono ?_); rintro e w5 ⟨rfl, q5, hw5⟩; have hB5 : Below w.heap.size w w5 := (by rw [hw5]; exact below_drewN (hB4.alloc hB4.size _) _); have hT5 : At (w5.alloc (.cells #[.int .u64 5, .int .u64 10, .int .u64 20] 68)) _ [(5 : UInt64), 10, 20] := (by rw [hw5]; exact (((hT4.belowN (below_new12 w4 _)).drewN q5).belowN (below_new12 _ _)).at_); have hz5 := hB5.size; clear hw5)))
    go_ret
    exact ⟨rfl, below_drewN (hB5.alloc hz5 _) _⟩
  · have hR : Own ((w1.alloc (.cells #[.int .u64 0, .int .u64 0, .int .u64 0] 68)).alloc (.cells #[.int .u64 5, .int .u64 2] 68)).drew w.heap.size 68 (some ⟨w.heap.size + 2 + 1, 0, none⟩) 2 [(5 : UInt64), 2] := by
      have := (Own.made (w1.alloc (.cells #[.int .u64 0, .int .u64 0, .int .u64 0] 68)) (Nat.le_trans hB1.size (by simp)) 68 #[.int .u64 5, .int .u64 2] [(5 : UInt64), 2] rfl (by decide) 2 rfl).drew
      simp only [World.size_alloc, hz1] at this; exact this
    have hT : Own ((w1.alloc (.cells #[.int .u64 0, .int .u64 0, .int .u64 0] 68)).alloc (.cells #[.int .u64 5, .int .u64 2] 68)).drew w.heap.size 68 (some ⟨w.heap.size + 2, 0, none⟩) 3 [(0 : UInt64), 0, 0] := by
      have := ((Own.made w1 hB1.size 68 #[.int .u64 0, .int .u64 0, .int .u64 0] [(0 : UInt64), 0, 0] rfl (by decide) 3 rfl).alloc (.cells #[.int .u64 5, .int .u64 2] 68)).drew
      rw [hz1] at this; exact this
    have hBW := Below.drew (below2 w1 (.cells #[.int .u64 0, .int .u64 0, .int .u64 0] 68) (.cells #[.int .u64 5, .int .u64 2] 68))
    generalize ((w1.alloc (.cells #[.int .u64 0, .int .u64 0, .int .u64 0] 68)).alloc (.cells #[.int .u64 5, .int .u64 2] 68)).drew = W2 at *
    have hX2 := hX1.belowN hBW
    have hx2 := hx1.belowN hBW
    have hB2 := hB1.trans (hBW.mono hB1.size)
    have hzz := hBW.size
    obtain ⟨o0, o1, o2, o3⟩ := hX2.c2
    have h40 : ∀ W : World, At (W.alloc (.cells #[.int .u64 40, .int .u64 2] 68)) (some ⟨W.heap.size, 0, none⟩) [(40 : UInt64), 2] := fun W => At.ofBlk (Blk.new W _ #[.int .u64 40, .int .u64 2]) [(40 : UInt64), 2] rfl
    have h51 : ∀ W : World, At (W.alloc (.cells #[.int .u64 5, .int .u64 10, .int .u64 20] 68)) (some ⟨W.heap.size, 0, none⟩) [(5 : UInt64), 10, 20] := fun W => At.ofBlk (Blk.new W _ #[.int .u64 5, .int .u64 10, .int .u64 20]) [(5 : UInt64), 10, 20] rfl
    have h2 : ∀ W : World, At (W.alloc (.cells #[.int .i64 2] 3)) (some ⟨W.heap.size, 0, none⟩) [(2 : Int)] := fun W => At.ofBlk (Blk.new W _ #[.int .i64 2]) [(2 : Int)] rfl
    have H40 := hide h40
    have H51 := hide h51
    have H2 := hide h2
    clear h40 h51 h2
    have hzb : ∀ q, q ∈ [w.heap.size + 2 + 1, w.heap.size + 2] → w.heap.size ≤ q := by intro q hq; simp at hq; omega
    go_wp2_with (first
      | (go_at_call 54; go_must ((with_reducible refine (RecordN 2 _ 3 3 ex21.flat rfl _ 2 2 [5, 2] rfl w.heap.size _ 3 3 [0, 0, 0] rfl w.heap.size 3 0 [40, 2] [5, 10, 20] ex21_rec.2.2 ex21_ready ex21_rec.1 ex21_rec.2.1 _ hx2 (by omega) hR hT (by omega) (by omega) (fun q hq => by simp at hq; simp <;> omega)).mono ?_); rintro e w3 ⟨rfl, hR3, hT3, hTu⟩; have hB3 := hTu.below hB2 (fun q hq => hzb q (by simpa [blkL] using hq)) hB2.size; have hz3 := hB3.size; have hX3 : Blk w3 _ _ _ := (hTu.block _ hX2.lt (by simp [blkL] <;> omega)).trans hX2; have hx3 := hx2.turned hTu (fun _ q hq => by simp [blkL] at hq; simp <;> omega); obtain ⟨q0, q1, q2, q3⟩ := hX3.c2; have hn3 := below_new12 w3 (.cells #[.int .i64 2] 3); have hx3' := hx3.belowN hn3; have hT3' := hT3.belowN hn3; have hR3' := hR3.belowN hn3; have hC3 := hB3.trans (hn3.mono hz3)))
      | (go_at_call 41; go_must ((with_reducible refine (WasN 2 _ 3 3 ex21.flat rfl _ 3 3 [5, 10, 20] rfl 1 _ 1 1 [2] rfl (by decide) 20 0 ex21_was _ hx3' (by decide) hT3'.at_ (by omega) (H2.out w3) (by omega)).mono ?_); rintro e w4 ⟨rfl, hb4⟩; have hB4 := hC3.trans (hb4.mono hC3.size); have hR4 := (hR3'.belowN hb4).at_.belowN (below_new12 w4 (.cells #[.int .u64 40, .int .u64 2] 68)); have hT4 := hT3'.belowN hb4))
      | (go_at_call 27; first
          | ((with_reducible refine (Same5N _ _ 3 3 _ _ [5, 10, 20] _ rfl rfl hT5 (H51.out w5) (by omega)).mono ?_); rintro e w6 ⟨rfl, q6, rfl⟩)
          | go_must ((with_reducible refine (Same5N _ _ 2 2 _ _ [40, 2] _ rfl rfl hR4 (H40.out w4) (by omega)).mono ?_); rintro e w5 ⟨rfl, q5, hw5⟩; have hB5 : Below w.heap.size w w5 := (by rw [hw5]; exact below_drewN (hB4.alloc hB4.size _) _); have hT5 : At (w5.alloc (.cells #[.int .u64 5, .int .u64 10, .int .u64 20] 68)) _ [(5 : UInt64), 10, 20] := (by rw [hw5]; exact (((hT4.belowN (below_new12 w4 _)).drewN q5).belowN (below_new12 _ _)).at_); have hz5 := hB5.size; clear hw5)))
    go_ret
    exact ⟨rfl, below_drewN (hB5.alloc hz5 _) _⟩
end Go.Proofs.Ythncfoompoheoaa
