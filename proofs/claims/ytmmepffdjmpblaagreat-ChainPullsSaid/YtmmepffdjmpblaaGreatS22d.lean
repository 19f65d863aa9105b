/- Chapter 22: Pull. -/
import Derived.Deep.RegionHeld3
import Derived.Test.YtmmepffdjmpblaaGreatAz
import Derived.Test.YtmmepffdjmpblaaGreatQb
import Derived.Test.YtmmepffdjmpblaaGreatS22c
import Derived.Test.YtmmepffdjmpblaaGreatT21d
import Derived.Deep.RegionLaw
import Derived.Test.YtmmepffdjmpblaaGreatW21b
namespace Go.Proofs.YtmmepffdjmpblaaGreat
set_option linter.unusedVariables false
set_option linter.unusedSimpArgs false
open Go.RowKit
theorem tyNU : TyN Tryz.prog 25 50 (0 : UInt64) := TyN.of (z := .int .u64 0) (size := 1) (bytes := 8) Tryz.underlying25 (by kernel_rfl) rfl (by decide) rfl
set_option maxRecDepth 100000 in
set_option maxHeartbeats 1600000 in
theorem Full_calls (nr : Nat) (g : Nat) (pv : Value) (ra : Option Addr) (rn rc : Nat) (r : List UInt64) (hrn : rn = r.length) (w : World) (hb : Blk w g 24 #[.int .i64 (nr : Int), pv]) (hr : At w ra r) (h1 : rn ≤ nr) (h2 : nr ≤ 64) :
    Calls Tryz.prog 42 #[.slice ra rn rc, .pointer (some ⟨g, 0, none⟩)] w fun e w' => ∃ a' c', e = .returned (.slice a' nr c') ∧ Own w' w.heap.size 50 a' c' (startR nr r) ∧ Below w.heap.size w w' := by
  have HRN := hide hrn
  have hlt := hb.lt
  obtain ⟨b0, b1, b2, b3⟩ := hb.c2
  obtain ⟨d, hd⟩ : ∃ d : Nat, d = nr - rn := ⟨_, rfl⟩
  have hd1 : rn + d ≤ nr := by omega
  have hd2 : nr ≤ rn + d := by omega
  have hst : startR nr r = r ++ List.replicate d 0 := by unfold startR; rw [← hrn, hd]
  have HST := hide hst
  have hd0 : Below w.heap.size w w.drew := Below.drew (Below.refl _ _)
  have hrd : At w.drew ra r := hr
  have HWR : Hid (IntKind.i64.wrap ((nr : Int) - (rn : Int)) = (d : Int)) := by show _ = _; rw [IntWalk.i64_in _ (by omega)]; omega
  clear hrn hst hd
  go_enter Tryz.func42, Tryz.ntmps42
  go_wp2_with fail
  go_region_held3 (fun w' => w'.cell? ⟨g, 0, none⟩ = some (.int .i64 (nr : Int))) (go_keep)
    (first
      | (go_at_call 33; go_must ((with_reducible refine (CloneU_calls ra rn rc r w.drew HRN.out hrd (by omega)).mono ?_); rintro e w1 ⟨a1, c1, rfl, hown1, hb1⟩; have hB1 := hd0.trans (hb1.mono hd0.size); obtain ⟨y0, _⟩ := bcell hB1; have t0 := (y0 g 0 hlt).trans b0; clear y0))
      | (refine step_zeros tyNU (Tn := 3) Tryz.underlying3 (m := d) hown1 rfl rfl rfl rfl (by first | exact HWR.out | omega) HRN.out hB1.size (by omega) (by omega) ?_; intro a2 c2 w2 hown2 hg2 _; have hB2 := below_push hB1 hown1 hg2 hB1.size; obtain ⟨y0, _⟩ := bcell hB2; have t1 := (y0 g 0 hlt).trans b0; clear y0))
  go_wp2
  go_ret
  rw [HST.out]
  have e : rn + d = nr := by omega
  exact ⟨a2, c2, by rw [← e]; rfl, hown2, hB2⟩
/-- may weights be taken back? -/
def pullE (regs : Int) (l : List OpD) (rn wn : Nat) : Int := if checkS regs l ≠ 0 then checkS regs l else if regs < (rn : Int) ∨ regs < (wn : Int) then 10 else 0
noncomputable def pullA (regs : Int) (l : List OpD) (r w : List UInt64) : List UInt64 := if pullE regs l r.length w.length = 0 then backA (unrS regs l) (startR regs.toNat r) (startR regs.toNat w) else []
theorem pull_good {regs : Int} {l : List OpD} {rn wn : Nat} (h : pullE regs l rn wn = 0) : ∃ f : Fo, l = f.flat ∧ Good regs f ∧ (rn : Int) ≤ regs ∧ (wn : Int) ≤ regs := by
  unfold pullE at h
  by_cases hc : checkS regs l = 0
  · rw [if_neg (by simpa using hc)] at h
    obtain ⟨f, rfl, g⟩ := good_of_check hc
    by_cases hn : regs < (rn : Int) ∨ regs < (wn : Int)
    · rw [if_pos hn] at h; cases h
    · exact ⟨f, rfl, g, by omega, by omega⟩
  · rw [if_pos hc] at h; exact absurd h hc
theorem pull_of_good {regs : Int} {f : Fo} (g : Good regs f) {rn wn : Nat} (hn : (rn : Int) ≤ regs) (hw : (wn : Int) ≤ regs) : pullE regs f.flat rn wn = 0 := by
  unfold pullE
  rw [if_neg (by simpa using g.check), if_neg (by omega)]
theorem pullE_dims {regs : Int} {f : Fo} (g : Good regs f) {rn wn : Nat} (h : regs < (rn : Int) ∨ regs < (wn : Int)) : pullE regs f.flat rn wn = 10 := by
  unfold pullE
  rw [if_neg (by simpa using g.check), if_pos h]
theorem pullE_bad {regs : Int} {l : List OpD} {rn wn : Nat} (hc : checkS regs l ≠ 0) : pullE regs l rn wn = checkS regs l := by unfold pullE; rw [if_pos hc]
theorem pullA_good {regs : Int} {f : Fo} (g : Good regs f) {r w : List UInt64} (hn : (r.length : Int) ≤ regs) (hw : (w.length : Int) ≤ regs) : pullA regs f.flat r w = backA f.unroll (startR regs.toNat r) (startR regs.toNat w) := by
  unfold pullA
  rw [if_pos (pull_of_good g hn hw), unrS_good g]
theorem pullA_bad {regs : Int} {l : List OpD} {r w : List UInt64} (h : pullE regs l r.length w.length ≠ 0) : pullA regs l r w = [] := by unfold pullA; rw [if_neg h]
theorem pullA_len (regs : Int) (l : List OpD) (r w : List UInt64) : (pullA regs l r w).length ≤ 64 := by
  by_cases h : pullE regs l r.length w.length = 0
  · obtain ⟨f, rfl, g, hn, hw⟩ := pull_good h
    rw [pullA_good g hn hw, backA_length, startR_length _ _ (by omega)]
    have := g.r2; omega
  · rw [pullA_bad h]; simp
set_option maxRecDepth 100000 in
set_option maxHeartbeats 3200000 in
theorem Pull_good (nr : Nat) (a : Option Addr) (c : Nat) (f : Fo) (g : Good nr f) (ra : Option Addr) (rn rc : Nat) (r : List UInt64) (hrn : rn = r.length) (wa : Option Addr) (wn wc : Nat) (w0 : List UInt64) (hwn : wn = w0.length) (w : World) (h : At w a f.flat) (hr : At w ra r) (hw : At w wa w0) (h1 : rn ≤ nr) (h2 : wn ≤ nr) :
    Calls Tryz.prog 20 #[.agg #[.int .i64 (nr : Int), .slice a f.flat.length c], .slice ra rn rc, .slice wa wn wc] w fun e w' => ∃ a' c', e = .returned (.tuple #[.slice a' nr c', .int .i64 0]) ∧ Own w' w.heap.size 50 a' c' (backA f.unroll (startR nr r) (startR nr w0)) ∧ Below w.heap.size w w' := by
  have hb0 := below_new12 w (.cells #[.int .i64 (nr : Int), .slice a f.flat.length c] 24)
  have hX := Blk.new w 24 #[.int .i64 (nr : Int), .slice a f.flat.length c]
  have hl : f.flat.length ≤ 4096 := g.len
  have g1 := h.belowN hb0
  have hr1 := hr.belowN hb0
  have hw1 := hw.belowN hb0
  have r2 : nr ≤ 64 := by have := g.r2; omega
  have r1 : 1 ≤ nr := by have := g.r1; omega
  have HSZ := hide (fun w' (h : At w' a f.flat) => SizeW_calls a c f.flat w' h (by omega))
  rw [g.sizeW.1, g.sizeW.2] at HSZ
  have HP := hide (fun w' (h : At w' a f.flat) => Code_calls nr a c f.flat w' h (by omega))
  unfold CodePost at HP
  rw [g.check, codeS_good g] at HP
  have hul : f.unroll.length ≤ 65536 := by rw [Fo.unroll_length]; exact g.few
  have HRN := hide hrn
  have HWN := hide hwn
  obtain ⟨U, hU⟩ : ∃ U, f.unroll = U := ⟨_, rfl⟩
  have HU := hide hU
  have HG := hide g
  rw [hU] at HSZ hul
  rw [hU]
  clear hrn hwn hU g
  have HF1 : Hid (∀ W, Below (w.alloc (.cells #[.int .i64 (nr : Int), .slice a f.flat.length c] 24)).heap.size (w.alloc (.cells #[.int .i64 (nr : Int), .slice a f.flat.length c] 24)) W → Calls Tryz.prog 42 #[.slice ra rn rc, .pointer (some ⟨w.heap.size, 0, none⟩)] W fun e w' => ∃ a' c', e = .returned (.slice a' nr c') ∧ Own w' W.heap.size 50 a' c' (startR nr r) ∧ Below W.heap.size W w') :=
    hide fun W hb => Full_calls nr w.heap.size _ ra rn rc r HRN.out W (hX.belowN hb) (hr1.belowN hb) h1 r2
  have HF2 : Hid (∀ W, Below (w.alloc (.cells #[.int .i64 (nr : Int), .slice a f.flat.length c] 24)).heap.size (w.alloc (.cells #[.int .i64 (nr : Int), .slice a f.flat.length c] 24)) W → Calls Tryz.prog 42 #[.slice wa wn wc, .pointer (some ⟨w.heap.size, 0, none⟩)] W fun e w' => ∃ a' c', e = .returned (.slice a' nr c') ∧ Own w' W.heap.size 50 a' c' (startR nr w0) ∧ Below W.heap.size W w') :=
    hide fun W hb => Full_calls nr w.heap.size _ wa wn wc w0 HWN.out W (hX.belowN hb) (hw1.belowN hb) h2 r2
  obtain ⟨Rs, hRs⟩ : ∃ Rs, startR nr r = Rs := ⟨_, rfl⟩
  obtain ⟨Ws, hWs⟩ : ∃ Ws, startR nr w0 = Ws := ⟨_, rfl⟩
  have hRl : Rs.length = nr := by rw [← hRs, startR_length _ _ (by rw [← HRN.out]; exact h1)]
  have hWl : Ws.length = nr := by rw [← hWs, startR_length _ _ (by rw [← HWN.out]; exact h2)]
  rw [hRs] at HF1 ⊢
  rw [hWs] at HF2 ⊢
  obtain ⟨tn, htn⟩ : ∃ tn, tn = U.length := ⟨_, rfl⟩
  rw [← htn] at HSZ hul
  have HTN := hide htn
  obtain ⟨Z, hZ⟩ : ∃ Z, Z = List.replicate tn (0 : UInt64) := ⟨_, rfl⟩
  have hZl : Z.length = tn := by rw [hZ, List.length_replicate]
  have gg := HG.out
  obtain ⟨k1, k2, k3, _⟩ := rec_good gg (r := Rs) (t := Z) (by omega) (by rw [HU.out]; omega)
  rw [HU.out] at k1 k2 k3
  rw [hRl, hZl, ← htn] at k3
  have k4 : readyS nr f.flat nr tn = 0 := ready_of_good gg rfl (by rw [HU.out]; omega)
  obtain ⟨R1, hR1⟩ : ∃ R1, runR U Rs = R1 := ⟨_, rfl⟩
  obtain ⟨T1, hT1⟩ : ∃ T1, tpR U Rs Z = T1 := ⟨_, rfl⟩
  have hR1l : R1.length = nr := by rw [← hR1, runR_length, hRl]
  have hT1l : T1.length = tn := by rw [← hT1, tpR_length _ _ _ (by omega), hZl]
  rw [hR1] at k1
  rw [hT1] at k2
  obtain ⟨k5, k6⟩ := back_good gg (r := R1) (w := Ws) (t := T1) (by omega) (by omega) (by rw [HU.out]; omega)
  rw [HU.out, ← hR1, ← hT1, back_tp] at k5 k6
  rw [hR1, hT1] at k5 k6
  simp only at k5 k6
  have k7 : backE nr f.flat nr nr tn = 0 := backE_of_good gg rfl rfl (by rw [HU.out]; omega)
  have K1 := hide k1
  have K2 := hide k2
  have K3 := hide k3
  have K4 := hide k4
  have K5 := hide k5
  have K6 := hide k6
  have K7 := hide k7
  have HZ := hide hZ
  have HZL := hide hZl.symm
  have HR1L := hide hR1l.symm
  have HT1L := hide hT1l.symm
  clear gg k1 k2 k3 k4 k5 k6 k7 hR1 hT1 hZ hZl hR1l hT1l
  have HRL := hide hRl.symm
  have HWL := hide hWl.symm
  clear hRs hWs hRl hWl htn hr hw hr1 hw1 h
  have hm1 : (rn : Int) ≤ nr := by omega
  have hm2 : (wn : Int) ≤ nr := by omega
  go_enter Tryz.func20, Tryz.ntmps20
  go_wp2_with (first
    | (go_at_call 40; go_must ((with_reducible refine (HSZ.out _ g1).mono ?_); rintro e w1 ⟨rfl, hC1⟩; have hz1 := hC1.size; obtain ⟨q0, q1, q2, q3⟩ := (hX.belowN hC1).c2))
    | (go_at_call 41; go_must ((with_reducible refine (HP.out _ (g1.belowN hC1)).mono ?_); rintro e w2 ⟨a2, c2, rfl, hown2, hb2⟩; have hC2 := hC1.trans (hb2.mono hC1.size); obtain ⟨q0, q1, q2, q3⟩ := (hX.belowN hC2).c2)))
  all_goals
    have hNA := Below.drew hC2
    have hNC := Below.drew (hC2.trans ((below_new12 w2 (.cells (zerosU tn) 50)).mono hC2.size))
    have hmk := mkU tn (tn : Int) rfl (by omega)
    go_region_law (first
      | (have hgd := w3; go_simp; go_at_call 42; go_must ((with_reducible refine (HF2.out _ (by first | exact hC3 | exact hC3Z)).mono ?_); rintro e w4 ⟨a4, c4, rfl, hown4, hb4⟩))
      | (go_simp; go_at_call 42; go_must ((with_reducible refine (HF1.out _ (by first | exact hNA | exact hNC)).mono ?_); rintro e w3 ⟨a3, c3, rfl, hown3, hb3⟩; have hC3 : Below _ _ w3 := (by first | exact hNA.trans (hb3.mono hNA.size) | exact hNC.trans (hb3.mono hNC.size)); have hC3Z := hC3.trans ((below_new12 w3 (.cells (zerosU tn) 50)).mono hC3.size))))
  all_goals
    have hz2w : w.heap.size + 1 ≤ w2.heap.size := by have := hC2.size; simp at this; omega
    first
      | (have hT : Own w4 (w.heap.size + 1) 50 (some ⟨w2.heap.size, 0, none⟩) tn (List.replicate tn (0 : UInt64)) := (((ownZ (B := w2.heap.size) w2 (Nat.le_refl _) tn (by omega)).drew.belowN hb3).belowN hb4).mono hz2w
         have hz3 := hb3.size
         have hz4 := hb4.size
         simp only [World.size_drew, World.size_alloc] at hz3
         have hR : Own w4 (w.heap.size + 1) 50 a3 c3 Rs := (hown3.belowN hb4).mono (by simp; omega)
         have hA : Own w4 (w.heap.size + 1) 50 a4 c4 Ws := hown4.mono (by omega)
         have hC5 := hC3.trans (hb4.mono hC3.size)
         have hd1 : ∀ q, a3.map (·.block) = some q → a4.map (·.block) ≠ some q := fun q e1 e2 => by have h1 := (hown3.blk q e1).2; have h2 := (hown4.blk q e2).1; omega
         have hd2 : ∀ q, (some (⟨w2.heap.size, 0, none⟩ : Addr)).map (·.block) = some q → a3.map (·.block) ≠ some q ∧ a4.map (·.block) ≠ some q := fun q e => ⟨fun e1 => by have h1 := (hown3.blk q e1).1; simp at e h1; omega, fun e1 => by have h1 := (hown4.blk q e1).1; simp at e; omega⟩
         obtain ⟨gt, hgt⟩ : ∃ gt, gt = w2.heap.size := ⟨_, rfl⟩
         rw [← hgt] at hT hd2 ⊢
         clear hgt
         obtain ⟨w5, hw5⟩ : ∃ w5, w5 = w4 := ⟨_, rfl⟩
         rw [← hw5] at hT hR hA hC5 ⊢
         clear hw5)
      | (have hT : Own w4 (w.heap.size + 1) 50 (some ⟨w3.heap.size, 0, none⟩) tn (List.replicate tn (0 : UInt64)) := ((ownZ (B := w3.heap.size) w3 (Nat.le_refl _) tn (by omega)).belowN hb4).mono (by have := hC3.size; simp at this; omega)
         have hz3 := hb3.size
         have hz4 := hb4.size
         simp only [World.size_alloc] at hz4
         have hR : Own w4 (w.heap.size + 1) 50 a3 c3 Rs := ((hown3.alloc (.cells (zerosU tn) 50)).belowN hb4).mono (by simp; omega)
         have hA : Own w4 (w.heap.size + 1) 50 a4 c4 Ws := hown4.mono (by have := hC3.size; simp at this ⊢; omega)
         have hC5 := hC3Z.trans (hb4.mono hC3Z.size)
         have hd1 : ∀ q, a3.map (·.block) = some q → a4.map (·.block) ≠ some q := fun q e1 e2 => by have h1 := (hown3.blk q e1).2; have h2 := (hown4.blk q e2).1; simp at h2; omega
         have hd2 : ∀ q, (some (⟨w3.heap.size, 0, none⟩ : Addr)).map (·.block) = some q → a3.map (·.block) ≠ some q ∧ a4.map (·.block) ≠ some q := fun q e => ⟨fun e1 => by have h1 := (hown3.blk q e1).2; simp at e; omega, fun e1 => by have h1 := (hown4.blk q e1).1; simp at e h1; omega⟩
         generalize w3.heap.size = gt at *
         obtain ⟨w5, hw5⟩ : ∃ w5, w5 = w4 := ⟨_, rfl⟩
         rw [← hw5] at hT hR hA hC5 ⊢
         clear hw5)
      | (have hz3 := hb3.size
         have hz4 := hb4.size
         have hT := (ownZ (B := w4.heap.size) w4 (Nat.le_refl _) tn (by omega)).mono (show w.heap.size + 1 ≤ w4.heap.size by have := hC3.size; simp at this; omega)
         have hR : Own (w4.alloc (.cells (zerosU tn) 50)) (w.heap.size + 1) 50 a3 c3 Rs := ((hown3.belowN hb4).alloc _).mono (by simp; omega)
         have hA : Own (w4.alloc (.cells (zerosU tn) 50)) (w.heap.size + 1) 50 a4 c4 Ws := (hown4.alloc _).mono (by have := hC3.size; simp at this; omega)
         have hC4 := hC3.trans (hb4.mono hC3.size)
         have hC5 := hC4.trans ((below_new12 w4 (.cells (zerosU tn) 50)).mono hC4.size)
         have hd1 : ∀ q, a3.map (·.block) = some q → a4.map (·.block) ≠ some q := fun q e1 e2 => by have h1 := (hown3.blk q e1).2; have h2 := (hown4.blk q e2).1; omega
         have hd2 : ∀ q, (some (⟨w4.heap.size, 0, none⟩ : Addr)).map (·.block) = some q → a3.map (·.block) ≠ some q ∧ a4.map (·.block) ≠ some q := fun q e => ⟨fun e1 => by have h1 := (hown3.blk q e1).2; simp at e; omega, fun e1 => by have h1 := (hown4.blk q e1).2; simp at e; omega⟩
         generalize hw5 : w4.alloc (.cells (zerosU tn) 50) = w5 at *
         generalize w4.heap.size = gt at *
         clear hw5)
    rw [← HZ.out] at hT
    have hd3 : ∀ q, a3.map (·.block) = some q → (some (⟨gt, 0, none⟩ : Addr)).map (·.block) ≠ some q := fun q e1 e2 => (hd2 q e2).1 e1
    have hd4 : ∀ q, a4.map (·.block) = some q → (some (⟨gt, 0, none⟩ : Addr)).map (·.block) ≠ some q := fun q e1 e2 => (hd2 q e2).2 e1
    obtain ⟨u0, u1, u2, u3⟩ := (hX.belowN hC5).c2
    have hz5 := hC5.size
    simp only [World.size_alloc] at hz5
    go_wp2_with (first
      | (go_at_call 43; go_must ((with_reducible refine (RecordN nr a c _ f.flat rfl a3 c3 nr Rs HRL.out (w.heap.size + 1) (some ⟨gt, 0, none⟩) tn tn Z HZL.out (w.heap.size + 1) _ _ _ _ K3.out K4.out K1.out K2.out w5 (g1.belowN hC5) (by omega) hR hT (by omega) (by omega) hd3).mono ?_); rintro e w6 ⟨rfl, hR6, hT6, hTu6⟩; have hC6 := hTu6.below hC5 (fun q hq => by rcases List.mem_append.1 hq with hq | hq <;> first | (have h1 := (hR.blk q (blkL_mem.1 hq)).1; simp; omega) | (have h1 := (hT.blk q (blkL_mem.1 hq)).1; simp; omega)) hC5.size; have hA6 := hA.turned hTu6 (fun q e hq => by rcases List.mem_append.1 hq with hq | hq <;> first | exact hd1 q (blkL_mem.1 hq) e | exact hd4 q e (blkL_mem.1 hq)); have hz6 := hTu6.size; obtain ⟨p0, p1, p2, p3⟩ := (hX.belowN hC6).c2))
      | (go_at_call 44; go_must ((with_reducible refine (Back_calls nr a c _ f.flat rfl a3 nr c3 a4 nr c4 (some ⟨gt, 0, none⟩) tn tn (w.heap.size + 1) (w.heap.size + 1) R1 Ws T1 Rs (backA U Rs Ws) 0 HR1L.out HWL.out HT1L.out K7.out K5.out K6.out w6 (g1.belowN hC6) (by omega) hR6 hA6 hT6.at_ (by omega) (by omega) (by omega) hd1 hd2).mono ?_); rintro e w7 ⟨rfl, hR7, hA7, hTu7⟩; have hC7 := hTu7.below hC6 (fun q hq => by rcases List.mem_append.1 hq with hq | hq <;> first | (have h1 := (hR6.blk q (blkL_mem.1 hq)).1; simp; omega) | (have h1 := (hA6.blk q (blkL_mem.1 hq)).1; simp; omega)) hC6.size)))
    go_ret2
    exact ⟨a4, c4, rfl, hA7.mono (by omega), hb0.trans (hC7.mono hb0.size)⟩
set_option maxRecDepth 100000 in
set_option maxHeartbeats 1600000 in
theorem Pull_dims (nr : Nat) (a : Option Addr) (c : Nat) (f : Fo) (g : Good nr f) (ra : Option Addr) (rn rc : Nat) (wa : Option Addr) (wn wc : Nat) (w : World) (h : At w a f.flat) (b1 : rn ≤ 1000000) (b2 : wn ≤ 1000000) (hd : (nr : Int) < (rn : Int) ∨ (nr : Int) < (wn : Int)) :
    Calls Tryz.prog 20 #[.agg #[.int .i64 (nr : Int), .slice a f.flat.length c], .slice ra rn rc, .slice wa wn wc] w fun e w' => e = .returned (.tuple #[.slice none 0 0, .int .i64 10]) ∧ Below w.heap.size w w' := by
  have hb0 := below_new12 w (.cells #[.int .i64 (nr : Int), .slice a f.flat.length c] 24)
  have hX := Blk.new w 24 #[.int .i64 (nr : Int), .slice a f.flat.length c]
  have hl : f.flat.length ≤ 4096 := g.len
  have g1 := h.belowN hb0
  have r2 : nr ≤ 64 := by have := g.r2; omega
  have HSZ := hide (fun w' (h : At w' a f.flat) => SizeW_calls a c f.flat w' h (by omega))
  rw [g.sizeW.1, g.sizeW.2] at HSZ
  have HP := hide (fun w' (h : At w' a f.flat) => Code_calls nr a c f.flat w' h (by omega))
  unfold CodePost at HP
  rw [g.check, codeS_good g] at HP
  have hul : f.unroll.length ≤ 65536 := by rw [Fo.unroll_length]; exact g.few
  generalize f.unroll = U at *
  clear g
  rcases Nat.lt_or_ge rn wn with hm | hm
  · have hq : (nr : Int) < (wn : Int) := by omega
    have hm2 : (rn : Int) ≤ (wn : Int) := by omega
    clear hd
    go_enter Tryz.func20, Tryz.ntmps20
    go_wp2_with (first
      | (go_at_call 40; go_must ((with_reducible refine (HSZ.out _ g1).mono ?_); rintro e w1 ⟨rfl, hC1⟩; have hz1 := hC1.size; obtain ⟨q0, q1, q2, q3⟩ := (hX.belowN hC1).c2))
      | (go_at_call 41; go_must ((with_reducible refine (HP.out _ (g1.belowN hC1)).mono ?_); rintro e w2 ⟨a2, c2, rfl, hown2, hb2⟩; have hC2 := hC1.trans (hb2.mono hC1.size); obtain ⟨q0, q1, q2, q3⟩ := (hX.belowN hC2).c2)))
    all_goals
      go_ret2
      exact ⟨rfl, hb0.trans (hC2.mono hb0.size)⟩
  · have hq : (nr : Int) < (rn : Int) := by omega
    have hm2 : (wn : Int) ≤ (rn : Int) := by omega
    clear hd
    go_enter Tryz.func20, Tryz.ntmps20
    go_wp2_with (first
      | (go_at_call 40; go_must ((with_reducible refine (HSZ.out _ g1).mono ?_); rintro e w1 ⟨rfl, hC1⟩; have hz1 := hC1.size; obtain ⟨q0, q1, q2, q3⟩ := (hX.belowN hC1).c2))
      | (go_at_call 41; go_must ((with_reducible refine (HP.out _ (g1.belowN hC1)).mono ?_); rintro e w2 ⟨a2, c2, rfl, hown2, hb2⟩; have hC2 := hC1.trans (hb2.mono hC1.size); obtain ⟨q0, q1, q2, q3⟩ := (hX.belowN hC2).c2)))
    all_goals
      go_ret2
      exact ⟨rfl, hb0.trans (hC2.mono hb0.size)⟩
set_option maxRecDepth 100000 in
set_option maxHeartbeats 800000 in
theorem Pull_bad (regs : Int) (a : Option Addr) (c : Nat) (l : List OpD) (ra : Option Addr) (rn rc : Nat) (wa : Option Addr) (wn wc : Nat) (w : World) (h : At w a l) (hl : l.length ≤ 1000000) (hc : checkS regs l ≠ 0) :
    Calls Tryz.prog 20 #[.agg #[.int .i64 regs, .slice a l.length c], .slice ra rn rc, .slice wa wn wc] w fun e w' => e = .returned (.tuple #[.slice none 0 0, .int .i64 (checkS regs l)]) ∧ Below w.heap.size w w' := by
  have hb0 := below_new12 w (.cells #[.int .i64 regs, .slice a l.length c] 24)
  have hX := Blk.new w 24 #[.int .i64 regs, .slice a l.length c]
  have g1 := h.belowN hb0
  have HSZ := hide (fun w' (h : At w' a l) => SizeW_calls a c l w' h hl)
  have HP := hide (fun w' (h : At w' a l) => Code_calls regs a c l w' h hl)
  obtain ⟨E, hE⟩ : ∃ E, E = checkS regs l := ⟨_, rfl⟩
  unfold CodePost at HP
  rw [← hE] at HP hc ⊢
  have e1 : (E == 0) = false := by simpa using hc
  have e2 : (E != 0) = true := by simpa using hc
  clear hE hc
  go_enter Tryz.func20, Tryz.ntmps20
  go_wp2_with (first
    | (go_at_call 40; go_must ((with_reducible refine (HSZ.out _ g1).mono ?_); rintro e w1 ⟨rfl, hC1⟩; have hz1 := hC1.size; obtain ⟨q0, q1, q2, q3⟩ := (hX.belowN hC1).c2))
    | (go_at_call 41; go_must ((with_reducible refine (HP.out _ (g1.belowN hC1)).mono ?_); rintro e w2 ⟨a2, c2, rfl, hown2, hb2⟩; have hC2 := hC1.trans (hb2.mono hC1.size); obtain ⟨q0, q1, q2, q3⟩ := (hX.belowN hC2).c2)))
  go_ret2
  exact ⟨rfl, hb0.trans (hC2.mono hb0.size)⟩
theorem Pull_calls (regs : Int) (a : Option Addr) (c ln : Nat) (l : List OpD) (hln : ln = l.length) (ra : Option Addr) (rn rc : Nat) (r : List UInt64) (hrn : rn = r.length) (wa : Option Addr) (wn wc : Nat) (w0 : List UInt64) (hwn : wn = w0.length) (A : List UInt64) (E : Int) (hA : pullA regs l r w0 = A) (hE : pullE regs l rn wn = E) (w : World) (h : At w a l) (hl : ln ≤ 1000000) (hr : At w ra r) (hw : At w wa w0) (b1 : rn ≤ 1000000) (b2 : wn ≤ 1000000) :
    Calls Tryz.prog 20 #[.agg #[.int .i64 regs, .slice a ln c], .slice ra rn rc, .slice wa wn wc] w fun e w' => ∃ a' c', e = .returned (.tuple #[.slice a' A.length c', .int .i64 E]) ∧ Own w' w.heap.size 50 a' c' A ∧ Below w.heap.size w w' := by
  subst hln hA hE
  by_cases hc : pullE regs l rn wn = 0
  · rw [hc]
    obtain ⟨f, rfl, g, hn, hm⟩ := pull_good hc
    obtain ⟨nr, rfl⟩ : ∃ nr : Nat, regs = nr := ⟨regs.toNat, by have := g.r1; omega⟩
    rw [pullA_good g (by omega) (by omega)]
    refine (Pull_good nr a c f g ra rn rc r hrn wa wn wc w0 hwn w h hr hw (by omega) (by omega)).mono ?_
    rintro e w' ⟨a', c', rfl, o, hb⟩
    refine ⟨a', c', ?_, o, hb⟩
    rw [Int.toNat_natCast, backA_length, startR_length _ _ (by omega)]
  · rw [pullA_bad (by rw [← hrn, ← hwn]; exact hc)]
    have key : Calls Tryz.prog 20 #[.agg #[.int .i64 regs, .slice a l.length c], .slice ra rn rc, .slice wa wn wc] w fun e w' => e = .returned (.tuple #[.slice none 0 0, .int .i64 (pullE regs l rn wn)]) ∧ Below w.heap.size w w' := by
      by_cases h0 : checkS regs l = 0
      · obtain ⟨f, rfl, g⟩ := good_of_check h0
        obtain ⟨nr, rfl⟩ : ∃ nr : Nat, regs = nr := ⟨regs.toNat, by have := g.r1; omega⟩
        have hd : (nr : Int) < (rn : Int) ∨ (nr : Int) < (wn : Int) := Classical.byContradiction fun hd => hc (pull_of_good g (by omega) (by omega))
        rw [pullE_dims g hd]
        exact Pull_dims nr a c f g ra rn rc wa wn wc w h b1 b2 hd
      · rw [pullE_bad h0]
        exact Pull_bad regs a c l ra rn rc wa wn wc w h hl h0
    refine key.mono ?_
    rintro e w' ⟨rfl, hb⟩
    exact ⟨none, 0, rfl, Own.none _ _ _, hb⟩
end Go.Proofs.YtmmepffdjmpblaaGreat
