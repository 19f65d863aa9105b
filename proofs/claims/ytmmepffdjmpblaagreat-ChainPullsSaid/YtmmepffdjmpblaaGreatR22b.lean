/- Chapter 22, the document's answers: Pull. -/
import Derived.Deep.RegionHeld3
import Derived.Deep.RegionLaw
import Derived.Test.YtmmepffdjmpblaaGreatG21
import Derived.Test.YtmmepffdjmpblaaGreatS22d
import Derived.Test.YtmmepffdjmpblaaGreatR22a
namespace Go.Proofs.YtmmepffdjmpblaaGreat
set_option linter.unusedVariables false
set_option linter.unusedSimpArgs false
open Go.RowKit
set_option maxRecDepth 100000 in
set_option maxHeartbeats 3200000 in
theorem RPull_good (nr : Nat) (a : Option Addr) (c : Nat) (f : Fo) (g : Good nr f) (ra : Option Addr) (rn rc : Nat) (r : List UInt64) (hrn : rn = r.length) (wa : Option Addr) (wn wc : Nat) (w0 : List UInt64) (hwn : wn = w0.length) (w : World) (h : At w a f.flat) (hr : At w ra r) (hw : At w wa w0) (h1 : rn ≤ nr) (h2 : wn ≤ nr) :
    Calls Tryz.prog 23 #[.agg #[.int .i64 (nr : Int), .slice a f.flat.length c], .slice ra rn rc, .slice wa wn wc] w fun e w' => ∃ a' c', e = .returned (.tuple #[.slice a' nr c', .int .i64 0]) ∧ Own w' w.heap.size 50 a' c' (backA f.unroll (startR nr r) (startR nr w0)) ∧ Below w.heap.size w w' := by
  have hb0 := below_new12 w (.cells #[.int .i64 (nr : Int), .slice a f.flat.length c] 24)
  have hX := Blk.new w 24 #[.int .i64 (nr : Int), .slice a f.flat.length c]
  have hl : f.flat.length ≤ 4096 := g.len
  have g1 := h.belowN hb0
  have hr1 := hr.belowN hb0
  have hw1 := hw.belowN hb0
  have r2 : nr ≤ 64 := by have := g.r2; omega
  have r1 : 1 ≤ nr := by have := g.r1; omega
  have HP := hide (Unroll12R nr a c f.flat _ f.unroll 0 (unrS_good g) g.check g1 (by omega))
  have hul : f.unroll.length ≤ 65536 := by rw [Fo.unroll_length]; exact g.few
  have HRN := hide hrn
  have HWN := hide hwn
  obtain ⟨U, hU⟩ : ∃ U, f.unroll = U := ⟨_, rfl⟩
  have HU := hide hU
  have HG := hide g
  rw [hU] at HP hul
  rw [hU]
  have HF1 : Hid (∀ W, At W ra r → Calls Tryz.prog 48 #[.int .i64 (nr : Int), .slice ra rn rc] W fun e w' => ∃ a' c', e = .returned (.slice a' nr c') ∧ Own w' W.heap.size 50 a' c' (startR nr r) ∧ Below W.heap.size W w') :=
    hide fun W hb => by have := Start13_calls nr nr rfl ra rc r W (by omega) hb (by omega); rw [← hrn, startS_eq (by omega)] at this; exact this
  have HF2 : Hid (∀ W, At W wa w0 → Calls Tryz.prog 48 #[.int .i64 (nr : Int), .slice wa wn wc] W fun e w' => ∃ a' c', e = .returned (.slice a' nr c') ∧ Own w' W.heap.size 50 a' c' (startR nr w0) ∧ Below W.heap.size W w') :=
    hide fun W hb => by have := Start13_calls nr nr rfl wa wc w0 W (by omega) hb (by omega); rw [← hwn, startS_eq (by omega)] at this; exact this
  clear hrn hwn hU g
  obtain ⟨Rs, hRs⟩ : ∃ Rs, startR nr r = Rs := ⟨_, rfl⟩
  obtain ⟨Ws, hWs⟩ : ∃ Ws, startR nr w0 = Ws := ⟨_, rfl⟩
  have hRl : Rs.length = nr := by rw [← hRs, startR_length _ _ (by rw [← HRN.out]; exact h1)]
  have hWl : Ws.length = nr := by rw [← hWs, startR_length _ _ (by rw [← HWN.out]; exact h2)]
  rw [hRs] at HF1 ⊢
  rw [hWs] at HF2 ⊢
  obtain ⟨tn, htn⟩ : ∃ tn, tn = U.length := ⟨_, rfl⟩
  rw [← htn] at HP hul
  have HTN := hide htn
  obtain ⟨Z, hZ⟩ : ∃ Z, Z = List.replicate tn (0 : UInt64) := ⟨_, rfl⟩
  have hZl : Z.length = tn := by rw [hZ, List.length_replicate]
  have gg := HG.out
  obtain ⟨k1, k2, k3, _⟩ := rec_good gg (r := Rs) (t := Z) (by omega) (by rw [HU.out]; omega)
  rw [HU.out] at k1 k2 k3
  rw [hRl, hZl, ← htn] at k3
  have k4 : readyS nr f.flat nr tn = 0 := ready_of_good gg rfl (by rw [HU.out]; omega)
  obtain ⟨R1, hR1⟩ : ∃ R1, runR U Rs = R1 := ⟨_, rfl⟩
  obtain ⟨T1, hT1⟩ : ∃ T1, tpR U Rs Z = T1 := ⟨_, rfl⟩
  have hR1l : R1.length = nr := by rw [← hR1, runR_length, hRl]
  have hT1l : T1.length = tn := by rw [← hT1, tpR_length _ _ _ (by omega), hZl]
  rw [hR1] at k1
  rw [hT1] at k2
  obtain ⟨k5, k6⟩ := back_good gg (r := R1) (w := Ws) (t := T1) (by omega) (by omega) (by rw [HU.out]; omega)
  rw [HU.out, ← hR1, ← hT1, back_tp] at k5 k6
  rw [hR1, hT1] at k5 k6
  simp only at k5 k6
  have k7 : backE nr f.flat nr nr tn = 0 := backE_of_good gg rfl rfl (by rw [HU.out]; omega)
  have K1 := hide k1
  have K2 := hide k2
  have K3 := hide k3
  have K4 := hide k4
  have K5 := hide k5
  have K6 := hide k6
  have K7 := hide k7
  have HZ := hide hZ
  have HZL := hide hZl.symm
  have HR1L := hide hR1l.symm
  have HT1L := hide hT1l.symm
  clear gg k1 k2 k3 k4 k5 k6 k7 hR1 hT1 hZ hZl hR1l hT1l
  have HRL := hide hRl.symm
  have HWL := hide hWl.symm
  clear hRs hWs hRl hWl htn hr hw h
  have hm1 : (rn : Int) ≤ nr := by omega
  have hm2 : (wn : Int) ≤ nr := by omega
  go_enter Tryz.func23, Tryz.ntmps23
  go_wp2_with (go_at_call 46; go_must ((with_reducible refine (HP.out).mono ?_); rintro e w2 ⟨a2, c2, rfl, hown2, hC2⟩; obtain ⟨q0, q1, q2, q3⟩ := (hX.belowN hC2).c2))
  all_goals
    have hNA := Below.drew hC2
    have hNC := Below.drew (hC2.trans ((below_new12 w2 (.cells (zerosU tn) 50)).mono hC2.size))
    have hmk := mkU tn (tn : Int) rfl (by omega)
    obtain ⟨z0, z1, z2, z3⟩ := (hX.belowN (hC2.trans ((below_new12 w2 (.cells (zerosU tn) 50)).mono hC2.size))).c2
    go_region_law (first
      | (go_simp; go_at_call 47; go_must (first
          | ((with_reducible refine (Record21N nr a c _ f.flat rfl a3 c3 nr Rs HRL.out (some ⟨w3.heap.size, 0, none⟩) tn tn Z HZL.out _ _ _ _ K3.out K4.out K1.out K2.out _ (g1.belowN hC3Z) (by omega) (hown3.alloc (.cells (zerosU tn) 50)).at_ (by rw [HZ.out]; exact (ownZ (B := w3.heap.size) w3 (Nat.le_refl _) tn (by omega)).at_) (by omega) (by omega)).mono ?_); rintro e w4 ⟨a5, c5, a6, c6, rfl, hR5, hT5, hb4⟩; have hC4 : Below _ _ w4 := hC3Z.trans (hb4.mono hC3Z.size))
          | ((with_reducible refine (Record21N nr a c _ f.flat rfl a3 c3 nr Rs HRL.out (some ⟨w2.heap.size, 0, none⟩) tn tn Z HZL.out _ _ _ _ K3.out K4.out K1.out K2.out _ (g1.belowN hC3) (by omega) hown3.at_ (by rw [HZ.out]; exact (((ownZ (B := w2.heap.size) w2 (Nat.le_refl _) tn (by omega)).drew).belowN hb3).at_) (by omega) (by omega)).mono ?_); rintro e w4 ⟨a5, c5, a6, c6, rfl, hR5, hT5, hb4⟩; have hC4 : Below _ _ w4 := hC3.trans (hb4.mono hC3.size))))
      | (go_simp; go_at_call 48; go_must ((with_reducible refine (HF1.out _ (by first | exact hr1.belowN hNA | exact hr1.belowN hNC)).mono ?_); rintro e w3 ⟨a3, c3, rfl, hown3, hb3⟩; have hC3 : Below _ _ w3 := (by first | exact hNA.trans (hb3.mono hNA.size) | exact hNC.trans (hb3.mono hNC.size)); have hC3Z := hC3.trans ((below_new12 w3 (.cells (zerosU tn) 50)).mono hC3.size); obtain ⟨t0, t1, t2, t3⟩ := (hX.belowN hC3).c2; obtain ⟨s0, s1, s2, s3⟩ := (hX.belowN hC3Z).c2)))
  all_goals
    have hR : Own w4 (w.heap.size + 1) 50 a5 c5 R1 := hR5.mono (by first | (have := hC3.size; simp at this ⊢; omega) | (have := hC3.size; simp at this; omega))
    have hT : Own w4 (w.heap.size + 1) 50 a6 c6 T1 := hT5.mono (by first | (have := hC3.size; simp at this ⊢; omega) | (have := hC3.size; simp at this; omega))
    clear hR5 hT5 hb4 hC3Z hC3 hown3 hb3 hmk hNA hNC t0 t1 t2 t3 s0 s1 s2 s3 q0 q1 q2 q3 z0 z1 z2 z3 hown2
    have hd4 : Below _ _ w4.drew := Below.drew hC4
    obtain ⟨q0, q1, q2, q3⟩ := (hX.belowN hC4).c2
    go_wp2_with fail
    go_region_held3 (fun w' => w'.cell? ⟨w.heap.size, 0, none⟩ = some (.int .i64 (nr : Int)) ∧ w'.cell? ⟨w.heap.size, 1, none⟩ = some (.slice a f.flat.length c)) (go_keep)
      (first
        | (have hgd := hR6; go_at_call 49; go_must ((with_reducible refine (RBack_calls nr a c _ f.flat rfl a5 nr c5 a7 nr c7 a6 tn c6 R1 Ws T1 Rs (backA U Rs Ws) 0 HR1L.out HWL.out HT1L.out K7.out K5.out K6.out w6 (g1.belowN hC6) (by omega) hR6.at_ hA6.at_ hT6.at_ (by omega) (by omega) (by omega)).mono ?_); rintro e w7 ⟨a8, c8, a9, c9, rfl, hR7, hA7, hb7⟩; have hC7 := hC6.trans (hb7.mono hC6.size); obtain ⟨t0, t1, _⟩ := (hX.belowN hC7).c2))
        | (go_at_call 48; go_must ((with_reducible refine (HF2.out _ (hw1.belowN hd4)).mono ?_); rintro e w6 ⟨a7, c7, rfl, hA6, hb6⟩; have hC6 := hd4.trans (hb6.mono hd4.size); have hR6 := (hR.drew).belowN hb6; have hT6 := (hT.drew).belowN hb6; obtain ⟨t0, t1, _⟩ := (hX.belowN hC6).c2)))
    go_wp2
    go_ret2
    exact ⟨a9, c9, rfl, hA7.mono (by have := hC6.size; simp at this; omega), hb0.trans (hC7.mono hb0.size)⟩
end Go.Proofs.YtmmepffdjmpblaaGreat
