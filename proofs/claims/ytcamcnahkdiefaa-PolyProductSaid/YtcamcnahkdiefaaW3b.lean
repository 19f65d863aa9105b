/- Chapter 3: the page's example, walked. -/
import Derived.Test.YtcamcnahkdiefaaW3a
namespace Go.Proofs.Ytcamcnahkdiefaa
set_option linter.unusedVariables false
set_option linter.unusedSimpArgs false
open Go.RowKit
theorem ex_args (w : World) : TOut (fun _ => True) (((w.alloc (.cells #[.int .i64 1] 3)).alloc (.cells #[.int .i64 2] 3)).alloc (.cells #[.int .u64 9223372036854775808, .slice (some ⟨w.heap.size, 0, none⟩) 1 1, .int .u64 9223372036854775808, .slice (some ⟨w.heap.size + 1, 0, none⟩) 1 1] 57))
    (some ⟨w.heap.size + 1 + 1, 0, none⟩) 2 2 [((9223372036854775808 : UInt64), [(1 : Int)]), (9223372036854775808, [2])] := by
  obtain ⟨h1, h2, h3, hb, _⟩ := three_boxes w 3 3 57 #[.int .i64 1] #[.int .i64 2] #[.int .u64 9223372036854775808, .slice (some ⟨w.heap.size, 0, none⟩) 1 1, .int .u64 9223372036854775808, .slice (some ⟨w.heap.size + 1, 0, none⟩) 1 1]
  refine ⟨rfl, Nat.le_refl _, by decide, AtT.any ⟨[⟨9223372036854775808, some ⟨w.heap.size, 0, none⟩, 1, 1⟩, ⟨9223372036854775808, some ⟨w.heap.size + 1, 0, none⟩, 1, 1⟩], At.ofBlk h3 _ rfl, rfl, fun i x t q1 q2 => ?_⟩⟩
  match i with
  | 0 =>
    simp at q1 q2
    subst q1 q2
    exact ⟨rfl, rfl, Nat.le_refl _, (show 1 ≤ 9223372036854775807 by decide), At.ofBlk h1 _ rfl⟩
  | 1 =>
    simp at q1 q2
    subst q1 q2
    exact ⟨rfl, rfl, Nat.le_refl _, (show 1 ≤ 9223372036854775807 by decide), At.ofBlk h2 _ rfl⟩
  | i + 2 => simp at q1
set_option maxRecDepth 100000 in
set_option maxHeartbeats 6400000 in
theorem goes3_calls (w : World) : Calls Try.prog 9 #[] w fun v w' => v = .returned (.bool true) ∧ Below w.heap.size w w' := by
  obtain ⟨k1, k2, k3⟩ := ex_make
  obtain ⟨d1, d2, d3⟩ := ex_drv
  obtain ⟨v1, v2⟩ := ex_eval
  obtain ⟨W0, hW0⟩ : ∃ W0, ((w.alloc (.cells #[.int .i64 1] 3)).alloc (.cells #[.int .i64 2] 3)).alloc (.cells #[.int .u64 9223372036854775808, .slice (some ⟨w.heap.size, 0, none⟩) 1 1, .int .u64 9223372036854775808, .slice (some ⟨w.heap.size + 1, 0, none⟩) 1 1] 57) = W0 := ⟨_, rfl⟩
  have hA := ex_args w
  have hb0 := (three_boxes w 3 3 57 #[.int .i64 1] #[.int .i64 2] #[.int .u64 9223372036854775808, .slice (some ⟨w.heap.size, 0, none⟩) 1 1, .int .u64 9223372036854775808, .slice (some ⟨w.heap.size + 1, 0, none⟩) 1 1]).2.2.2.1
  rw [hW0] at hA hb0
  have HMK := hide (PMake_calls (fun _ => True) 1 (some ⟨w.heap.size + 1 + 1, 0, none⟩) 2 2 _ W0 hA (by decide) (fun t ht => by simp at ht; rcases ht with rfl | rfl <;> decide) 1 exL 0 k2 k3 k1)
  have HDV := hide (fun (W : World) (a : Option Addr) (c : Nat) (P : Nat → Prop) (k : TOut P W a 2 c exL) => PDrv_calls P 1 0 a 2 c exL W k (by decide) (fun t ht => by simp [exL] at ht; rcases ht with rfl | rfl <;> decide) 1 exD 0 d2 d3 d1)
  have HEV := hide (fun (W : World) (a xa : Option Addr) (c : Nat) (k : AtT W a exL) (kx : At W xa [(5 : UInt64)]) => Eval_calls 1 a 2 c exL rfl xa 1 1 [5] rfl W k kx (by decide) (fun t ht => by simp [exL] at ht; rcases ht with rfl | rfl <;> decide) 0 v1 0 v2)
  have HW0 := hide hW0
  clear k1 k2 k3 d1 d2 d3 v1 v2 hA hW0
  go_enter Try.func9, Try.ntmps9
  go_wp2_with (first
    | (go_at_call 15; go_must ((rw [HW0.out]); (with_reducible refine (HMK.out).mono ?_); rintro v w1 ⟨a1, n1, c1, rfl, hT1, hb1⟩; obtain rfl : n1 = 2 := hT1.len; have hbx1 := below_box w1 (.cells #[.int .i64 1, .slice a1 2 c1] 24); have hX1 := Blk.new w1 24 #[.int .i64 1, .slice a1 2 c1]; have hT1x := hT1.belowN hbx1; have hB1 := (hb0.trans (hb1.mono hb0.size)).trans (hbx1.mono (Nat.le_trans hb0.size hb1.size))))
    | (go_at_call 10; go_must ((with_reducible refine (HDV.out _ _ _ _ hT1x).mono ?_); rintro v w2 ⟨a2, n2, c2, rfl, hT2, hb2⟩; obtain rfl : n2 = 1 := hT2.len; have hbx2 := below_box w2 (.cells #[.int .i64 1, .slice a2 1 c2] 24); have hX2 := Blk.new w2 24 #[.int .i64 1, .slice a2 1 c2]; have hT2x := hT2.belowN hbx2; have hbb2 := hb2.trans (hbx2.mono hb2.size); have hT1y := hT1x.belowN hbb2; have hX1y := hX1.belowN hbb2; obtain ⟨r0, r1, r2, r3⟩ := hX1y.c2; have hB2 := hB1.trans (hbb2.mono hB1.size); have hbx3 := below_box (w2.alloc (.cells #[.int .i64 1, .slice a2 1 c2] 24)) (.cells #[.int .u64 5] 33); have hx5 : At ((w2.alloc (.cells #[.int .i64 1, .slice a2 1 c2] 24)).alloc (.cells #[.int .u64 5] 33)) (some ⟨w2.heap.size + 1, 0, none⟩) [(5 : UInt64)] := (by have := Blk.new (w2.alloc (.cells #[.int .i64 1, .slice a2 1 c2] 24)) 33 #[.int .u64 5]; rw [World.size_alloc] at this; exact At.ofBlk this _ rfl)))
    | (go_at_call 12; go_must ((with_reducible refine (HEV.out _ _ _ _ (hT1y.at_.at_.belowN hbx3) hx5).mono ?_); rintro v w3 ⟨rfl, hb3⟩; have hbb3 := hbx3.trans (hb3.mono hbx3.size); have hB3 := hB2.trans (hbb3.mono hB2.size); obtain ⟨s0, s1, s2, s3⟩ := (hX1y.belowN hbb3).c2; obtain ⟨t0, t1, t2, t3⟩ := (hX2.belowN hbb3).c2; obtain ⟨b1, off1, t, ea, en, ec, ha1, ht, u0, u1, hrow, _⟩ := (hT1y.at_).getF hbb3 (k := 0) (by decide); obtain rfl : t = (9223372036854775808, [2]) := (by have := ht.out; simp [exL] at this; exact this.symm); subst ha1; have hen : en = 1 := hrow.out.2.1; subst hen; obtain ⟨b2, off2, x, hea, hx, y0⟩ := hrow.out.2.2.2.2.getI (Below.refl _ _) (k := 0) (by decide); obtain rfl : x = 2 := (by have := hx.out; simp at this; exact this.symm); subst hea; obtain ⟨b3, off3, t', fa, fn, fc, ha2, ht', z0, z1, hrow', _⟩ := (hT2x.at_).getF hbb3 (k := 0) (by decide); obtain rfl : t' = (9223372036854775808, [0]) := (by have := ht'.out; simp [exD] at this; exact this.symm); subst ha2; rw [Nat.zero_mul, Nat.add_zero] at u0 u1 z0 z1; rw [Nat.add_zero] at y0)))
  go_ret
  exact ⟨rfl, hB3⟩
end Go.Proofs.Ytcamcnahkdiefaa
