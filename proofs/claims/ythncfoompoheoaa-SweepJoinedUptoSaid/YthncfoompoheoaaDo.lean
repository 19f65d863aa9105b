/- Chapter 14: what an operation makes of duals (ref14.does). -/
import Derived.Test.YthncfoompoheoaaDu
namespace Go.Proofs.Ythncfoompoheoaa
set_option linter.unusedVariables false
set_option linter.unusedSimpArgs false
open Go.RowKit
def doesD (x : OpD) (a b : DuD) : DuD :=
  if x.kind = 1 then addD a b else if x.kind = 2 then addD a (negD b) else if x.kind = 3 then mulD a b else if x.kind = 4 then negD a else if x.kind = 5 then ⟨x.v, 0⟩ else a
set_option maxRecDepth 100000 in
set_option maxHeartbeats 3200000 in
theorem Does14_calls (x : OpD) (a b : DuD) (w : World) (hk : -9223372036854775808 ≤ x.kind ∧ x.kind ≤ 9223372036854775807) :
    Calls Try.prog 84 #[.agg #[.int .i64 x.kind, .int .i64 x.d, .int .i64 x.a, .int .i64 x.b, .int .u64 (x.v.toNat : Int)], a.val, b.val] w fun e w' => e = .returned (doesD x a b).val ∧ Below w.heap.size w w' := by
  have HAB := hide (fun W => Plus02_calls a b W)
  have HNB := hide (fun W => Neg02_calls b W)
  have HANB := hide (fun W => Plus02_calls a (negD b) W)
  have HM := hide (fun W => Times02_calls a b W)
  have HNA := hide (fun W => Neg02_calls a W)
  obtain ⟨k, d, xa, xb, v⟩ := x
  simp only [doesD] at *
  obtain ⟨av, ad⟩ := a
  obtain ⟨bv, bd⟩ := b
  have hO := (((Blk.new w 99 #[.int .i64 k, .int .i64 d, .int .i64 xa, .int .i64 xb, .int .u64 (v.toNat : Int)]).alloc (.cells #[.int .u64 (av.toNat : Int), .int .u64 (ad.toNat : Int)] 92)).alloc (.cells #[.int .u64 (bv.toNat : Int), .int .u64 (bd.toNat : Int)] 92)).alloc (.cells #[.int .u64 0, .int .u64 0] 92)
  have hA := ((Blk.new (w.alloc (.cells #[.int .i64 k, .int .i64 d, .int .i64 xa, .int .i64 xb, .int .u64 (v.toNat : Int)] 99)) 92 #[.int .u64 (av.toNat : Int), .int .u64 (ad.toNat : Int)]).alloc (.cells #[.int .u64 (bv.toNat : Int), .int .u64 (bd.toNat : Int)] 92)).alloc (.cells #[.int .u64 0, .int .u64 0] 92)
  have hB := (Blk.new ((w.alloc (.cells #[.int .i64 k, .int .i64 d, .int .i64 xa, .int .i64 xb, .int .u64 (v.toNat : Int)] 99)).alloc (.cells #[.int .u64 (av.toNat : Int), .int .u64 (ad.toNat : Int)] 92)) 92 #[.int .u64 (bv.toNat : Int), .int .u64 (bd.toNat : Int)]).alloc (.cells #[.int .u64 0, .int .u64 0] 92)
  have hC := Blk.new (((w.alloc (.cells #[.int .i64 k, .int .i64 d, .int .i64 xa, .int .i64 xb, .int .u64 (v.toNat : Int)] 99)).alloc (.cells #[.int .u64 (av.toNat : Int), .int .u64 (ad.toNat : Int)] 92)).alloc (.cells #[.int .u64 (bv.toNat : Int), .int .u64 (bd.toNat : Int)] 92)) 92 #[.int .u64 0, .int .u64 0]
  simp only [World.size_alloc] at hA hB hC
  have hb0 := (below2 w (.cells #[.int .i64 k, .int .i64 d, .int .i64 xa, .int .i64 xb, .int .u64 (v.toNat : Int)] 99) (.cells #[.int .u64 (av.toNat : Int), .int .u64 (ad.toNat : Int)] 92)).trans ((below2 _ (.cells #[.int .u64 (bv.toNat : Int), .int .u64 (bd.toNat : Int)] 92) (.cells #[.int .u64 0, .int .u64 0] 92)).mono (by simp <;> omega))
  obtain ⟨w0, hw0⟩ : ∃ w0, w0 = (((w.alloc (.cells #[.int .i64 k, .int .i64 d, .int .i64 xa, .int .i64 xb, .int .u64 (v.toNat : Int)] 99)).alloc (.cells #[.int .u64 (av.toNat : Int), .int .u64 (ad.toNat : Int)] 92)).alloc (.cells #[.int .u64 (bv.toNat : Int), .int .u64 (bd.toNat : Int)] 92)).alloc (.cells #[.int .u64 0, .int .u64 0] 92) := ⟨_, rfl⟩
  rw [← hw0] at hO hA hB hC hb0
  have hz0 : w0.heap.size = w.heap.size + 4 := by rw [hw0]; simp
  have HE : Hid (∀ P : World → Prop, P w0 → P ((((w.alloc (.cells #[.int .i64 k, .int .i64 d, .int .i64 xa, .int .i64 xb, .int .u64 (v.toNat : Int)] 99)).alloc (.cells #[.int .u64 (av.toNat : Int), .int .u64 (ad.toNat : Int)] 92)).alloc (.cells #[.int .u64 (bv.toNat : Int), .int .u64 (bd.toNat : Int)] 92)).alloc (.cells #[.int .u64 0, .int .u64 0] 92))) := hide fun P h => by rw [← hw0]; exact h
  have HW0 : Hid ((((w.alloc (.cells #[.int .i64 k, .int .i64 d, .int .i64 xa, .int .i64 xb, .int .u64 (v.toNat : Int)] 99)).alloc (.cells #[.int .u64 (av.toNat : Int), .int .u64 (ad.toNat : Int)] 92)).alloc (.cells #[.int .u64 (bv.toNat : Int), .int .u64 (bd.toNat : Int)] 92)).alloc (.cells #[.int .u64 0, .int .u64 0] 92) = w0) := hide hw0.symm
  clear hw0 HE
  obtain ⟨o0, o1, o2, o3, o4, o5, o6, o7, o8, o9⟩ := hO.c5
  obtain ⟨a0, a1, a2, a3⟩ := hA.c2
  obtain ⟨b0, b1, b2, b3⟩ := hB.c2
  obtain ⟨c0, c1, c2, c3⟩ := hC.c2
  by_cases k1 : k = 1
  · subst k1
    rw [if_pos rfl]
    obtain ⟨S, hS⟩ : ∃ S, addD ⟨av, ad⟩ ⟨bv, bd⟩ = S := ⟨_, rfl⟩
    rw [hS] at HAB
    rw [hS]
    clear hS
    obtain ⟨sv, sd⟩ := S
    simp only [DuD.val] at *
    go_enter Try.func84, Try.ntmps84
    go_wp2_with (go_at_call 125; go_must (rw [HW0.out]; (with_reducible refine (HAB.out w0).mono ?_); rintro e w1 ⟨rfl, hB1⟩; obtain ⟨r8, r9, r10, r11⟩ := (hC.belowN hB1).c2))
    have hF := ((hC.belowN hB1).set_ 0 (.int .u64 (sv.toNat : Int))).set_ 1 (.int .u64 (sd.toNat : Int))
    have hB9 := hb0.trans ((hB1).mono hb0.size)
    try go_wp2
    try simp only [Exit.then, Exit.inBlock]
    refine bodyPost_ret (results_row_D rfl _ _ (w.heap.size + 1 + 1 + 1) _ #[.int .u64 (sv.toNat : Int), .int .u64 (sd.toNat : Int)] (0, 0) _ rfl hF Try.underlying92 rfl (by kernel_rfl)) rfl ⟨rfl, ?_⟩
    exact (hB9.setCell (p := ⟨w.heap.size + 1 + 1 + 1, 0, none⟩) (by first | exact hgw | (simp <;> omega)) _).setCell (p := ⟨w.heap.size + 1 + 1 + 1, 1, none⟩) (by first | exact hgw | (simp <;> omega)) _
  rw [if_neg k1]
  by_cases k2 : k = 2
  · subst k2
    clear k1
    rw [if_pos rfl]
    obtain ⟨N, hN⟩ : ∃ N, negD ⟨bv, bd⟩ = N := ⟨_, rfl⟩
    rw [hN] at HNB HANB
    rw [hN]
    obtain ⟨S, hS⟩ : ∃ S, addD ⟨av, ad⟩ N = S := ⟨_, rfl⟩
    rw [hS] at HANB
    rw [hS]
    clear hS hN
    obtain ⟨nv, nd⟩ := N
    obtain ⟨sv, sd⟩ := S
    simp only [DuD.val] at *
    go_enter Try.func84, Try.ntmps84
    go_wp2_with fail
    rw [HW0.out]
    clear HW0
    generalize hg : w.heap.size + 1 + 1 + 1 = g at *
    have hne1 : g ≠ w.heap.size := by omega
    have hne2 : g ≠ w.heap.size + 1 := by omega
    have hne3 : g ≠ w.heap.size + 1 + 1 := by omega
    have hgw : w.heap.size ≤ g := by omega
    clear hg
    have hd0 : Below w0.heap.size w0 w0.drew := Below.drew (Below.refl _ _)
    go_region_held3 (fun w' => w'.cell? ⟨w.heap.size + 1, 0, none⟩ = some (.int .u64 (av.toNat : Int)) ∧ w'.cell? ⟨w.heap.size + 1, 1, none⟩ = some (.int .u64 (ad.toNat : Int)) ∧ w'.cell? ⟨w.heap.size + 1 + 1, 0, none⟩ = some (.int .u64 (bv.toNat : Int)) ∧ w'.cell? ⟨w.heap.size + 1 + 1, 1, none⟩ = some (.int .u64 (bd.toNat : Int))) (go_keep)
      (first
        | (go_at_call 125; go_must ((with_reducible refine (HANB.out _).mono ?_); rintro e w2 ⟨rfl, hb2⟩; have hB2 := hB1.trans (hb2.mono hB1.size); obtain ⟨s0, s1, s2, s3⟩ := (hA.belowN hB2).c2; obtain ⟨s4, s5, s6, s7⟩ := (hB.belowN hB2).c2; obtain ⟨s8, s9, s10, s11⟩ := (hC.belowN hB2).c2))
        | (go_at_call 126; go_must ((with_reducible refine (HNB.out _).mono ?_); rintro e w1 ⟨rfl, hb1⟩; have hB1 := hd0.trans (hb1.mono hd0.size); obtain ⟨r0, r1, r2, r3⟩ := (hA.belowN hB1).c2; obtain ⟨r4, r5, r6, r7⟩ := (hB.belowN hB1).c2; obtain ⟨r8, r9, r10, r11⟩ := (hC.belowN hB1).c2)))
    have hF := ((hC.belowN hB2).set_ 0 (.int .u64 (sv.toNat : Int))).set_ 1 (.int .u64 (sd.toNat : Int))
    have hB9 := hb0.trans ((hB2).mono hb0.size)
    try go_wp2
    try simp only [Exit.then, Exit.inBlock]
    refine bodyPost_ret (results_row_D rfl _ _ (g) _ #[.int .u64 (sv.toNat : Int), .int .u64 (sd.toNat : Int)] (0, 0) _ rfl hF Try.underlying92 rfl (by kernel_rfl)) rfl ⟨rfl, ?_⟩
    exact (hB9.setCell (p := ⟨g, 0, none⟩) (by first | exact hgw | (simp <;> omega)) _).setCell (p := ⟨g, 1, none⟩) (by first | exact hgw | (simp <;> omega)) _
  rw [if_neg k2]
  by_cases k3 : k = 3
  · subst k3
    clear k1 k2
    rw [if_pos rfl]
    obtain ⟨S, hS⟩ : ∃ S, mulD ⟨av, ad⟩ ⟨bv, bd⟩ = S := ⟨_, rfl⟩
    rw [hS] at HM
    rw [hS]
    clear hS
    obtain ⟨sv, sd⟩ := S
    simp only [DuD.val] at *
    go_enter Try.func84, Try.ntmps84
    go_wp2_with (go_at_call 127; go_must (rw [HW0.out]; (with_reducible refine (HM.out w0).mono ?_); rintro e w1 ⟨rfl, hB1⟩; obtain ⟨r8, r9, r10, r11⟩ := (hC.belowN hB1).c2))
    have hF := ((hC.belowN hB1).set_ 0 (.int .u64 (sv.toNat : Int))).set_ 1 (.int .u64 (sd.toNat : Int))
    have hB9 := hb0.trans ((hB1).mono hb0.size)
    try go_wp2
    try simp only [Exit.then, Exit.inBlock]
    refine bodyPost_ret (results_row_D rfl _ _ (w.heap.size + 1 + 1 + 1) _ #[.int .u64 (sv.toNat : Int), .int .u64 (sd.toNat : Int)] (0, 0) _ rfl hF Try.underlying92 rfl (by kernel_rfl)) rfl ⟨rfl, ?_⟩
    exact (hB9.setCell (p := ⟨w.heap.size + 1 + 1 + 1, 0, none⟩) (by first | exact hgw | (simp <;> omega)) _).setCell (p := ⟨w.heap.size + 1 + 1 + 1, 1, none⟩) (by first | exact hgw | (simp <;> omega)) _
  rw [if_neg k3]
  by_cases k4 : k = 4
  · subst k4
    clear k1 k2 k3
    rw [if_pos rfl]
    obtain ⟨S, hS⟩ : ∃ S, negD ⟨av, ad⟩ = S := ⟨_, rfl⟩
    rw [hS] at HNA
    rw [hS]
    clear hS
    obtain ⟨sv, sd⟩ := S
    simp only [DuD.val] at *
    go_enter Try.func84, Try.ntmps84
    go_wp2_with (go_at_call 126; go_must (rw [HW0.out]; (with_reducible refine (HNA.out w0).mono ?_); rintro e w1 ⟨rfl, hB1⟩; obtain ⟨r8, r9, r10, r11⟩ := (hC.belowN hB1).c2))
    have hF := ((hC.belowN hB1).set_ 0 (.int .u64 (sv.toNat : Int))).set_ 1 (.int .u64 (sd.toNat : Int))
    have hB9 := hb0.trans ((hB1).mono hb0.size)
    try go_wp2
    try simp only [Exit.then, Exit.inBlock]
    refine bodyPost_ret (results_row_D rfl _ _ (w.heap.size + 1 + 1 + 1) _ #[.int .u64 (sv.toNat : Int), .int .u64 (sd.toNat : Int)] (0, 0) _ rfl hF Try.underlying92 rfl (by kernel_rfl)) rfl ⟨rfl, ?_⟩
    exact (hB9.setCell (p := ⟨w.heap.size + 1 + 1 + 1, 0, none⟩) (by first | exact hgw | (simp <;> omega)) _).setCell (p := ⟨w.heap.size + 1 + 1 + 1, 1, none⟩) (by first | exact hgw | (simp <;> omega)) _
  rw [if_neg k4]
  have hB1 := Below.refl w0.heap.size w0
  by_cases k5 : k = 5
  · subst k5
    clear k1 k2 k3 k4
    rw [if_pos rfl]
    simp only [DuD.val] at *
    go_enter Try.func84, Try.ntmps84
    go_wp2
    have hF := Blk.new (((w.alloc (.cells #[.int .i64 5, .int .i64 d, .int .i64 xa, .int .i64 xb, .int .u64 (v.toNat : Int)] 99)).alloc (.cells #[.int .u64 (av.toNat : Int), .int .u64 (ad.toNat : Int)] 92)).alloc (.cells #[.int .u64 (bv.toNat : Int), .int .u64 (bd.toNat : Int)] 92)) 92 #[.int .u64 (v.toNat : Int), .int .u64 0]
    simp only [World.size_alloc] at hF
    refine bodyPost_ret (results_row_D rfl _ _ (w.heap.size + 1 + 1 + 1) _ #[.int .u64 (v.toNat : Int), .int .u64 0] (0, 0) _ rfl hF Try.underlying92 rfl (by kernel_rfl)) rfl ⟨rfl, ?_⟩
    exact (below2 w (.cells #[.int .i64 5, .int .i64 d, .int .i64 xa, .int .i64 xb, .int .u64 (v.toNat : Int)] 99) (.cells #[.int .u64 (av.toNat : Int), .int .u64 (ad.toNat : Int)] 92)).trans ((below2 _ (.cells #[.int .u64 (bv.toNat : Int), .int .u64 (bd.toNat : Int)] 92) (.cells #[.int .u64 (v.toNat : Int), .int .u64 0] 92)).mono (by simp <;> omega))
  · rw [if_neg k5]
    have d1 : (k == 1) = false := by simpa using k1
    have d2 : (k == 2) = false := by simpa using k2
    have d3 : (k == 3) = false := by simpa using k3
    have d4 : (k == 4) = false := by simpa using k4
    have d5 : (k == 5) = false := by simpa using k5
    clear k1 k2 k3 k4 k5
    simp only [DuD.val] at *
    go_enter Try.func84, Try.ntmps84
    go_wp2
    have hF := Blk.new (((w.alloc (.cells #[.int .i64 k, .int .i64 d, .int .i64 xa, .int .i64 xb, .int .u64 (v.toNat : Int)] 99)).alloc (.cells #[.int .u64 (av.toNat : Int), .int .u64 (ad.toNat : Int)] 92)).alloc (.cells #[.int .u64 (bv.toNat : Int), .int .u64 (bd.toNat : Int)] 92)) 92 #[.int .u64 (av.toNat : Int), .int .u64 (ad.toNat : Int)]
    simp only [World.size_alloc] at hF
    refine bodyPost_ret (results_row_D rfl _ _ (w.heap.size + 1 + 1 + 1) _ #[.int .u64 (av.toNat : Int), .int .u64 (ad.toNat : Int)] (0, 0) _ rfl hF Try.underlying92 rfl (by kernel_rfl)) rfl ⟨rfl, ?_⟩
    exact (below2 w (.cells #[.int .i64 k, .int .i64 d, .int .i64 xa, .int .i64 xb, .int .u64 (v.toNat : Int)] 99) (.cells #[.int .u64 (av.toNat : Int), .int .u64 (ad.toNat : Int)] 92)).trans ((below2 _ (.cells #[.int .u64 (bv.toNat : Int), .int .u64 (bd.toNat : Int)] 92) (.cells #[.int .u64 (av.toNat : Int), .int .u64 (ad.toNat : Int)] 92)).mono (by simp <;> omega))
end Go.Proofs.Ythncfoompoheoaa
