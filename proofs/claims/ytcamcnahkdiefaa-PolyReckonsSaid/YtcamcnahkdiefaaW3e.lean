/- Chapter 3: the law PolyReckons. -/
import Derived.Test.YtcamcnahkdiefaaW3b
namespace Go.Proofs.Ytcamcnahkdiefaa
set_option linter.unusedVariables false
set_option linter.unusedSimpArgs false
open Go.RowKit
set_option maxRecDepth 100000 in
set_option maxHeartbeats 12800000 in
theorem PolyReckons_calls (va vb : Int) (a b : Option Addr) (n c m d : Nat) (ts us : List Tm) (w : World) (h : TOut (fun _ => True) w a n c ts) (h' : TOut (fun _ => True) w b m d us) :
    Calls Try.prog 7 #[.agg #[.int .i64 va, .slice a n c], .agg #[.int .i64 vb, .slice b m d]] w fun v w' => v = .returned (.bool true) ∧ Below w.heap.size w w' := by
  obtain ⟨hX, hY, hb0, hz0⟩ := two_boxes w 24 24 #[.int .i64 va, .slice a n c] #[.int .i64 vb, .slice b m d]
  obtain ⟨W0, hW0⟩ : ∃ W0, (w.alloc (.cells #[.int .i64 va, .slice a n c] 24)).alloc (.cells #[.int .i64 vb, .slice b m d] 24) = W0 := ⟨_, rfl⟩
  rw [hW0] at hX hY hb0 hz0
  obtain ⟨p0, p1, p2, p3⟩ := hX.c2
  obtain ⟨p4, p5, p6, p7⟩ := hY.c2
  have h0 := h.belowN hb0
  have h0' := h'.belowN hb0
  obtain ⟨Q1, hQ1⟩ : ∃ Q, fewB ts 40 = Q := ⟨_, rfl⟩
  obtain ⟨Q2, hQ2⟩ : ∃ Q, fewB us 40 = Q := ⟨_, rfl⟩
  have HF1 := hide (Few_calls (fun _ => True) va 40 (by decide) a n c ts W0 h0 Q1 hQ1)
  have HF2 := hide (fun (W : World) (k : Below W0.heap.size W0 W) => Few_calls (fun _ => True) vb 40 (by decide) b m d us W (h0'.belowN k) Q2 hQ2)
  have HXI := hide (fun (W : World) (k : Below W0.heap.size W0 W) => (⟨(hX.belowN k).c2, (hY.belowN k).c2⟩ : (W.cell? ⟨w.heap.size, 0, none⟩ = some (.int .i64 va) ∧ W.cell? ⟨w.heap.size, 1, none⟩ = some (.slice a n c) ∧ W.frozen? ⟨w.heap.size, 0, none⟩ = false ∧ W.frozen? ⟨w.heap.size, 1, none⟩ = false) ∧ (W.cell? ⟨w.heap.size + 1, 0, none⟩ = some (.int .i64 vb) ∧ W.cell? ⟨w.heap.size + 1, 1, none⟩ = some (.slice b m d) ∧ W.frozen? ⟨w.heap.size + 1, 0, none⟩ = false ∧ W.frozen? ⟨w.heap.size + 1, 1, none⟩ = false)))
  have HW0 := hide hW0
  have HGO := hide goes3_calls
  cases Q1 with
  | false =>
    clear hQ1 hQ2 h h0 h' h0' hW0
    go_enter Try.func7, Try.ntmps7
    go_wp2_with (first
      | (go_at_call 8; go_must ((rw [HW0.out]); (with_reducible refine (HF1.out).mono ?_); rintro v w1 ⟨rfl, hb1⟩))
      | (go_at_call 9; go_must ((with_reducible refine (HGO.out _).mono ?_); rintro v w2 ⟨rfl, hb2⟩)))
    go_ret
    have hB1 := hb0.trans (hb1.mono hb0.size)
    exact ⟨rfl, hB1.trans (hb2.mono hB1.size)⟩
  | true =>
   cases Q2 with
   | false =>
    clear hQ1 hQ2 h h0 h' h0' hW0
    go_enter Try.func7, Try.ntmps7
    go_wp2_with (first
      | (have hgd := hB1; go_at_call 8; go_must ((with_reducible refine (HF2.out _ hB1).mono ?_); rintro v w0' ⟨rfl, hb2⟩; have hB := hB1.trans (hb2.mono hB1.size); obtain ⟨⟨r0, r1, r2, r3⟩, ⟨s0, s1, s2, s3⟩⟩ := HXI.out _ hB; clear hgd))
      | (go_at_call 8; go_must ((rw [HW0.out]); (with_reducible refine (HF1.out).mono ?_); rintro v w0 ⟨rfl, hB1⟩; obtain ⟨⟨r0, r1, r2, r3⟩, ⟨s0, s1, s2, s3⟩⟩ := HXI.out _ hB1))
      | (go_at_call 9; go_must ((with_reducible refine (HGO.out _).mono ?_); rintro v w2 ⟨rfl, hb2⟩)))
    go_ret
    have hBB := hb0.trans (hB.mono hb0.size)
    exact ⟨rfl, hBB.trans (hb2.mono hBB.size)⟩
   | true =>
    obtain ⟨f1, f2⟩ := fewB_true hQ1
    obtain ⟨f3, f4⟩ := fewB_true hQ2
    have hn6 : n ≤ 40 := by have := h.len; omega
    have hm6 : m ≤ 40 := by have := h'.len; omega
    have hl6 : ∀ t ∈ ts, t.2.length ≤ 1000000 := fun t ht => Nat.le_trans (f2 t ht) (by decide)
    have hl6' : ∀ t ∈ us, t.2.length ≤ 1000000 := fun t ht => Nat.le_trans (f4 t ht) (by decide)
    obtain ⟨V1, hV1⟩ : ∃ V, resV (addOk va ts vb us) va (ts ++ us) = V := ⟨_, rfl⟩
    obtain ⟨L1, hL1⟩ : ∃ L, resL (addOk va ts vb us) va (ts ++ us) = L := ⟨_, rfl⟩
    obtain ⟨E1, hE1⟩ : ∃ E, resE (addOk va ts vb us) va (ts ++ us) = E := ⟨_, rfl⟩
    obtain ⟨V2, hV2⟩ : ∃ V, mresV (addOk va ts vb us) va ts us = V := ⟨_, rfl⟩
    obtain ⟨L2, hL2⟩ : ∃ L, mresL (addOk va ts vb us) va ts us = L := ⟨_, rfl⟩
    obtain ⟨E2, hE2⟩ : ∃ E, mresE (addOk va ts vb us) va ts us = E := ⟨_, rfl⟩
    obtain ⟨V3, hV3⟩ : ∃ V, resV (checkP va ts) va (negT ts) = V := ⟨_, rfl⟩
    obtain ⟨L3, hL3⟩ : ∃ L, resL (checkP va ts) va (negT ts) = L := ⟨_, rfl⟩
    obtain ⟨E3, hE3⟩ : ∃ E, resE (checkP va ts) va (negT ts) = E := ⟨_, rfl⟩
    obtain ⟨QC, hQC⟩ : ∃ Q, sameP va ts vb us = Q := ⟨_, rfl⟩
    have hO1 := hL1 ▸ res_out (addOk va ts vb us) va (ts ++ us)
    have hO2 := hL2 ▸ mres_out (addOk va ts vb us) va ts us
    have hO3 := hL3 ▸ res_out (checkP va ts) va (negT ts)
    have H1 := hide (fun (W : World) (k : Below W0.heap.size W0 W) => PAdd_calls (fun _ => True) (fun _ => True) va vb a b n c m d ts us W (h0.belowN k) (h0'.belowN k) (by omega) (by omega) hl6 hl6' V1 L1 E1 hV1 hL1 hE1)
    have H2 := hide (fun (W : World) (k : Below W0.heap.size W0 W) => RAdd3_calls (fun _ => True) (fun _ => True) va vb a b n c m d ts us W (h0.belowN k) (h0'.belowN k) (by omega) (by omega) hl6 hl6' V1 L1 E1 hV1 hL1 hE1)
    have H3 := hide (fun (W : World) (k : Below W0.heap.size W0 W) => PMul_calls (fun _ => True) (fun _ => True) va vb a b n c m d ts us W (h0.belowN k) (h0'.belowN k) (by omega) (by omega) hl6 hl6' V2 L2 E2 hV2 hL2 hE2)
    have H4 := hide (fun (W : World) (k : Below W0.heap.size W0 W) => RMul3_calls (fun _ => True) (fun _ => True) va vb a b n c m d ts us W (h0.belowN k) (h0'.belowN k) (by omega) (by omega) hl6 hl6' V2 L2 E2 hV2 hL2 hE2)
    have H5 := hide (fun (W : World) (k : Below W0.heap.size W0 W) => PNeg_calls (fun _ => True) va a n c ts W (h0.belowN k) (by omega) hl6 V3 L3 E3 hV3 hL3 hE3)
    have H6 := hide (fun (W : World) (k : Below W0.heap.size W0 W) => RNeg3_calls (fun _ => True) va a n c ts W (h0.belowN k) (by omega) hl6 V3 L3 E3 hV3 hL3 hE3)
    have H7 := hide (fun (W : World) (k : Below W0.heap.size W0 W) => Same_calls va vb a b n m c d ts us h.len h'.len W (h0.at_.at_.belowN k) (h0'.at_.at_.belowN k) (by omega) hl6 QC hQC)
    have H8 := hide (fun (W : World) (k : Below W0.heap.size W0 W) => RSame_calls va vb a b n m c d ts us h.len h'.len W (h0.at_.at_.belowN k) (h0'.at_.at_.belowN k) (by omega) hl6 QC hQC)
    have H9 := hide (fun (W : World) (k : Below W0.heap.size W0 W) => Same_calls va va a a n n c c ts ts h.len h.len W (h0.at_.at_.belowN k) (h0.at_.at_.belowN k) (by omega) hl6 true (sameP_self _ _))
    have e1 : (E1 == E1) = true := by simp
    have e2 : (E2 == E2) = true := by simp
    have e3 : (E3 == E3) = true := by simp
    have e4 : (QC == QC) = true := by simp
    clear hQ1 hQ2 h h0 h' h0' hW0 f1 f2 f3 f4 hl6 hl6' hV1 hL1 hE1 hV2 hL2 hE2 hV3 hL3 hE3 hQC
    go_enter Try.func7, Try.ntmps7
    go_wp2_with (first
      | (have hgd := hB1; go_at_call 8; go_must ((with_reducible refine (HF2.out _ hB1).mono ?_); rintro v w0' ⟨rfl, hb2⟩; have hB := hB1.trans (hb2.mono hB1.size); obtain ⟨⟨r0, r1, r2, r3⟩, ⟨s0, s1, s2, s3⟩⟩ := HXI.out _ hB; clear hgd))
      | (go_at_call 8; go_must ((rw [HW0.out]); (with_reducible refine (HF1.out).mono ?_); rintro v w0 ⟨rfl, hB1⟩; obtain ⟨⟨r0, r1, r2, r3⟩, ⟨s0, s1, s2, s3⟩⟩ := HXI.out _ hB1))
      | (go_at_call 23; go_must ((with_reducible refine (H1.out _ hB).mono ?_); rintro v w1 ⟨a1, n1, c1, rfl, hT1, hb1⟩; have hbx1 := below_box w1 (.cells #[.int .i64 V1, .slice a1 n1 c1] 24); have hX1 := Blk.new w1 24 #[.int .i64 V1, .slice a1 n1 c1]; have hT1 := hT1.belowN hbx1; have hst := hb1.trans (hbx1.mono hb1.size); have hB := hB.trans (hst.mono hB.size); obtain ⟨⟨r0, r1, r2, r3⟩, ⟨s0, s1, s2, s3⟩⟩ := HXI.out _ hB))
      | (go_at_call 28; go_must ((with_reducible refine (H2.out _ hB).mono ?_); rintro v w2 ⟨a2, n2, c2, rfl, hT2, hb2⟩; have hbx2 := below_box w2 (.cells #[.int .i64 V1, .slice a2 n2 c2] 24); have hX2 := Blk.new w2 24 #[.int .i64 V1, .slice a2 n2 c2]; have hT2 := hT2.belowN hbx2; have hst := hb2.trans (hbx2.mono hb2.size); have hX1 := hX1.belowN hst; have hT1 := hT1.belowN hst; have hB := hB.trans (hst.mono hB.size); obtain ⟨⟨r0, r1, r2, r3⟩, ⟨s0, s1, s2, s3⟩⟩ := HXI.out _ hB))
      | (go_at_call 24; go_must ((with_reducible refine (H3.out _ hB).mono ?_); rintro v w3 ⟨a3, n3, c3, rfl, hT3, hb3⟩; have hbx3 := below_box w3 (.cells #[.int .i64 V2, .slice a3 n3 c3] 24); have hX3 := Blk.new w3 24 #[.int .i64 V2, .slice a3 n3 c3]; have hT3 := hT3.belowN hbx3; have hst := hb3.trans (hbx3.mono hb3.size); have hX1 := hX1.belowN hst; have hT1 := hT1.belowN hst; have hX2 := hX2.belowN hst; have hT2 := hT2.belowN hst; have hB := hB.trans (hst.mono hB.size); obtain ⟨⟨r0, r1, r2, r3⟩, ⟨s0, s1, s2, s3⟩⟩ := HXI.out _ hB))
      | (go_at_call 29; go_must ((with_reducible refine (H4.out _ hB).mono ?_); rintro v w4 ⟨a4, n4, c4, rfl, hT4, hb4⟩; have hbx4 := below_box w4 (.cells #[.int .i64 V2, .slice a4 n4 c4] 24); have hX4 := Blk.new w4 24 #[.int .i64 V2, .slice a4 n4 c4]; have hT4 := hT4.belowN hbx4; have hst := hb4.trans (hbx4.mono hb4.size); have hX1 := hX1.belowN hst; have hT1 := hT1.belowN hst; have hX2 := hX2.belowN hst; have hT2 := hT2.belowN hst; have hX3 := hX3.belowN hst; have hT3 := hT3.belowN hst; have hB := hB.trans (hst.mono hB.size); obtain ⟨⟨r0, r1, r2, r3⟩, ⟨s0, s1, s2, s3⟩⟩ := HXI.out _ hB))
      | (go_at_call 30; go_must ((with_reducible refine (H5.out _ hB).mono ?_); rintro v w5 ⟨a5, n5, c5, rfl, hT5, hb5⟩; have hbx5 := below_box w5 (.cells #[.int .i64 V3, .slice a5 n5 c5] 24); have hX5 := Blk.new w5 24 #[.int .i64 V3, .slice a5 n5 c5]; have hT5 := hT5.belowN hbx5; have hst := hb5.trans (hbx5.mono hb5.size); have hX1 := hX1.belowN hst; have hT1 := hT1.belowN hst; have hX2 := hX2.belowN hst; have hT2 := hT2.belowN hst; have hX3 := hX3.belowN hst; have hT3 := hT3.belowN hst; have hX4 := hX4.belowN hst; have hT4 := hT4.belowN hst; have hB := hB.trans (hst.mono hB.size); obtain ⟨⟨r0, r1, r2, r3⟩, ⟨s0, s1, s2, s3⟩⟩ := HXI.out _ hB))
      | (go_at_call 31; go_must ((with_reducible refine (H6.out _ hB).mono ?_); rintro v w6 ⟨a6, n6, c6, rfl, hT6, hb6⟩; have hbx6 := below_box w6 (.cells #[.int .i64 V3, .slice a6 n6 c6] 24); have hX6 := Blk.new w6 24 #[.int .i64 V3, .slice a6 n6 c6]; have hT6 := hT6.belowN hbx6; have hst := hb6.trans (hbx6.mono hb6.size); have hX1 := hX1.belowN hst; have hT1 := hT1.belowN hst; have hX2 := hX2.belowN hst; have hT2 := hT2.belowN hst; have hX3 := hX3.belowN hst; have hT3 := hT3.belowN hst; have hX4 := hX4.belowN hst; have hT4 := hT4.belowN hst; have hX5 := hX5.belowN hst; have hT5 := hT5.belowN hst; have hB := hB.trans (hst.mono hB.size); obtain ⟨⟨r0, r1, r2, r3⟩, ⟨s0, s1, s2, s3⟩⟩ := HXI.out _ hB)))
    obtain ⟨Wf, hWf⟩ : ∃ Wf, w6.alloc (.cells #[.int .i64 V3, .slice a6 n6 c6] 24) = Wf := ⟨_, rfl⟩
    rw [hWf] at hB hX1 hX2 hX3 hX4 hX5 hX6 hT1 hT2 hT3 hT4 hT5 hT6 ⊢
    have hWW := Below.drew (Below.refl Wf.heap.size Wf)
    have HS1 := hide (fun (W : World) (k : Below Wf.heap.size Wf W) => RSame_calls V1 V1 a1 a2 n1 n2 c1 c2 L1 L1 hT1.len hT2.len W (hT1.at_.at_.belowN k) (hT2.at_.at_.belowN k) (by rw [hT1.len]; exact Nat.le_trans hO1.len (by decide)) hO1.six true (sameP_self _ _))
    have HS2 := hide (fun (W : World) (k : Below Wf.heap.size Wf W) => RSame_calls V2 V2 a3 a4 n3 n4 c3 c4 L2 L2 hT3.len hT4.len W (hT3.at_.at_.belowN k) (hT4.at_.at_.belowN k) (by rw [hT3.len]; exact Nat.le_trans hO2.len (by decide)) hO2.six true (sameP_self _ _))
    have HS3 := hide (fun (W : World) (k : Below Wf.heap.size Wf W) => RSame_calls V3 V3 a5 a6 n5 n6 c5 c6 L3 L3 hT5.len hT6.len W (hT5.at_.at_.belowN k) (hT6.at_.at_.belowN k) (by rw [hT5.len]; exact Nat.le_trans hO3.len (by decide)) hO3.six true (sameP_self _ _))
    have HH7 := hide (fun (W : World) (k : Below Wf.heap.size Wf W) => H7.out W (hB.trans (k.mono hB.size)))
    have HH8 := hide (fun (W : World) (k : Below Wf.heap.size Wf W) => H8.out W (hB.trans (k.mono hB.size)))
    have HH9 := hide (fun (W : World) (k : Below Wf.heap.size Wf W) => H9.out W (hB.trans (k.mono hB.size)))
    have HALL := hide (fun (W : World) (k : Below Wf.heap.size Wf W) => (⟨((hX.belowN hB).belowN k).c2.1, ((hX.belowN hB).belowN k).c2.2.1, ((hY.belowN hB).belowN k).c2.1, ((hY.belowN hB).belowN k).c2.2.1, (hX1.belowN k).c2.1, (hX1.belowN k).c2.2.1, (hX2.belowN k).c2.1, (hX2.belowN k).c2.2.1, (hX3.belowN k).c2.1, (hX3.belowN k).c2.2.1, (hX4.belowN k).c2.1, (hX4.belowN k).c2.2.1, (hX5.belowN k).c2.1, (hX5.belowN k).c2.2.1, (hX6.belowN k).c2.1, (hX6.belowN k).c2.2.1⟩ : W.cell? ⟨w.heap.size, 0, none⟩ = some (.int .i64 va) ∧ W.cell? ⟨w.heap.size, 1, none⟩ = some (.slice a n c) ∧ W.cell? ⟨w.heap.size + 1, 0, none⟩ = some (.int .i64 vb) ∧ W.cell? ⟨w.heap.size + 1, 1, none⟩ = some (.slice b m d) ∧ W.cell? ⟨w1.heap.size, 0, none⟩ = some (.int .i64 V1) ∧ W.cell? ⟨w1.heap.size, 1, none⟩ = some (.slice a1 n1 c1) ∧ W.cell? ⟨w2.heap.size, 0, none⟩ = some (.int .i64 V1) ∧ W.cell? ⟨w2.heap.size, 1, none⟩ = some (.slice a2 n2 c2) ∧ W.cell? ⟨w3.heap.size, 0, none⟩ = some (.int .i64 V2) ∧ W.cell? ⟨w3.heap.size, 1, none⟩ = some (.slice a3 n3 c3) ∧ W.cell? ⟨w4.heap.size, 0, none⟩ = some (.int .i64 V2) ∧ W.cell? ⟨w4.heap.size, 1, none⟩ = some (.slice a4 n4 c4) ∧ W.cell? ⟨w5.heap.size, 0, none⟩ = some (.int .i64 V3) ∧ W.cell? ⟨w5.heap.size, 1, none⟩ = some (.slice a5 n5 c5) ∧ W.cell? ⟨w6.heap.size, 0, none⟩ = some (.int .i64 V3) ∧ W.cell? ⟨w6.heap.size, 1, none⟩ = some (.slice a6 n6 c6)))
    obtain ⟨q0, q1, q2, q3, y0, y1, y2, y3, y4, y5, y6, y7, y8, y9, y10, y11⟩ := HALL.out _ hWW
    go_region_held3 (fun w' => w'.cell? ⟨w.heap.size, 0, none⟩ = some (.int .i64 va) ∧ w'.cell? ⟨w.heap.size, 1, none⟩ = some (.slice a n c) ∧ w'.cell? ⟨w.heap.size + 1, 0, none⟩ = some (.int .i64 vb) ∧ w'.cell? ⟨w.heap.size + 1, 1, none⟩ = some (.slice b m d) ∧ w'.cell? ⟨w1.heap.size, 0, none⟩ = some (.int .i64 V1) ∧ w'.cell? ⟨w1.heap.size, 1, none⟩ = some (.slice a1 n1 c1) ∧ w'.cell? ⟨w2.heap.size, 0, none⟩ = some (.int .i64 V1) ∧ w'.cell? ⟨w2.heap.size, 1, none⟩ = some (.slice a2 n2 c2) ∧ w'.cell? ⟨w3.heap.size, 0, none⟩ = some (.int .i64 V2) ∧ w'.cell? ⟨w3.heap.size, 1, none⟩ = some (.slice a3 n3 c3) ∧ w'.cell? ⟨w4.heap.size, 0, none⟩ = some (.int .i64 V2) ∧ w'.cell? ⟨w4.heap.size, 1, none⟩ = some (.slice a4 n4 c4) ∧ w'.cell? ⟨w5.heap.size, 0, none⟩ = some (.int .i64 V3) ∧ w'.cell? ⟨w5.heap.size, 1, none⟩ = some (.slice a5 n5 c5) ∧ w'.cell? ⟨w6.heap.size, 0, none⟩ = some (.int .i64 V3) ∧ w'.cell? ⟨w6.heap.size, 1, none⟩ = some (.slice a6 n6 c6)) (go_keep)
      (first
        | (go_at_call 14; (with_reducible refine (HS1.out _ hWW).mono ?_); rintro v wx ⟨rfl, hbx⟩; have hWW := hWW.trans (hbx.mono hWW.size); obtain ⟨q0, q1, q2, q3, y0, y1, y2, y3, y4, y5, y6, y7, y8, y9, y10, y11⟩ := HALL.out _ hWW)
        | (go_at_call 14; (with_reducible refine (HS2.out _ hWW).mono ?_); rintro v wx ⟨rfl, hbx⟩; have hWW := hWW.trans (hbx.mono hWW.size); obtain ⟨q0, q1, q2, q3, y0, y1, y2, y3, y4, y5, y6, y7, y8, y9, y10, y11⟩ := HALL.out _ hWW)
        | (go_at_call 14; (with_reducible refine (HS3.out _ hWW).mono ?_); rintro v wx ⟨rfl, hbx⟩; have hWW := hWW.trans (hbx.mono hWW.size); obtain ⟨q0, q1, q2, q3, y0, y1, y2, y3, y4, y5, y6, y7, y8, y9, y10, y11⟩ := HALL.out _ hWW)
        | (go_at_call 14; (with_reducible refine (HH8.out _ hWW).mono ?_); rintro v wx ⟨rfl, hbx⟩; have hWW := hWW.trans (hbx.mono hWW.size); obtain ⟨q0, q1, q2, q3, y0, y1, y2, y3, y4, y5, y6, y7, y8, y9, y10, y11⟩ := HALL.out _ hWW)
        | (go_at_call 27; (with_reducible refine (HH7.out _ hWW).mono ?_); rintro v wx ⟨rfl, hbx⟩; have hWW := hWW.trans (hbx.mono hWW.size); obtain ⟨q0, q1, q2, q3, y0, y1, y2, y3, y4, y5, y6, y7, y8, y9, y10, y11⟩ := HALL.out _ hWW)
        | (go_at_call 27; (with_reducible refine (HH9.out _ hWW).mono ?_); rintro v wx ⟨rfl, hbx⟩; have hWW := hWW.trans (hbx.mono hWW.size); obtain ⟨q0, q1, q2, q3, y0, y1, y2, y3, y4, y5, y6, y7, y8, y9, y10, y11⟩ := HALL.out _ hWW)
        | (go_at_call 9; (with_reducible refine (HGO.out _).mono ?_); rintro v wx ⟨rfl, hbx⟩; have hWW := hWW.trans (hbx.mono hWW.size); obtain ⟨q0, q1, q2, q3, y0, y1, y2, y3, y4, y5, y6, y7, y8, y9, y10, y11⟩ := HALL.out _ hWW))
    go_wp2
    go_ret
    exact ⟨rfl, hb0.trans ((hB.trans (hWW.mono hB.size)).mono hb0.size)⟩
end Go.Proofs.Ytcamcnahkdiefaa
