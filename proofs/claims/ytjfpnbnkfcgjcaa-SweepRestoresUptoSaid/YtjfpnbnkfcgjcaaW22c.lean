/- Chapter 22: SweepRestores. -/
import Derived.Deep.RegionHeld3
import Derived.Deep.RegionLaw
import Derived.Test.YtjfpnbnkfcgjcaaG22
import Derived.Test.YtjfpnbnkfcgjcaaW21b
import Derived.Test.YtjfpnbnkfcgjcaaRi
namespace Go.Proofs.Ytjfpnbnkfcgjcaa
set_option linter.unusedVariables false
set_option linter.unusedSimpArgs false
open Go.RowKit
theorem scaleR_length (c : UInt64) (l : List UInt64) : (scaleR c l).length = l.length := by simp [scaleR]
theorem restores_ok {regs : Int} {l : List OpD} {r t v : List UInt64} (V : UInt64) (h : readyS regs l r.length t.length = 0) :
    (backE regs l r.length v.length t.length = 0 ∧ backX regs l (recR regs l r t) v (recT regs l r t) = r ∧ backX regs l (recR regs l r t) (scaleR V v) (recT regs l r t) = r ∧ backY regs l (recR regs l r t) (scaleR V v) (recT regs l r t) = scaleR V (backY regs l (recR regs l r t) v (recT regs l r t))) ∨
    (backE regs l r.length v.length t.length = 10 ∧ (v.length : Int) ≠ regs) := by
  obtain ⟨f, rfl, g, hn, hu⟩ := ready_good h
  by_cases hv : (v.length : Int) = regs
  · left
    obtain ⟨e1, e2, _, _⟩ := rec_good g hn hu
    have hR : ((runR f.unroll r).length : Int) = regs := by rw [runR_length]; exact hn
    have hT : (tpR f.unroll r t).length = t.length := tpR_length _ _ _ hu
    refine ⟨backE_of_good g hn hv hu, ?_⟩
    rw [e1, e2]
    obtain ⟨k1, k2⟩ := back_good g (w := v) hR hv (by rw [hT]; exact hu)
    obtain ⟨k3, k4⟩ := back_good g (w := scaleR V v) hR (by rw [scaleR_length]; exact hv) (by rw [hT]; exact hu)
    rw [k1, k2, k3, k4, back_tp, back_tp]
    exact ⟨rfl, rfl, backA_scale _ _ _ _⟩
  · right
    exact ⟨backE_dims g (.inr hv), hv⟩
set_option maxRecDepth 100000 in
set_option maxHeartbeats 6400000 in
theorem SweepRestores_calls (regs : Int) (a : Option Addr) (c : Nat) (l : List OpD) (ra : Option Addr) (rc : Nat) (r : List UInt64) (aa : Option Addr) (ac : Nat) (v : List UInt64) (V : UInt64) (w : World) (h : At w a l) (hr : At w ra r) (hv : At w aa v) (hl : l.length ≤ 1000000) :
    Calls Try.prog 7 #[.agg #[.int .i64 regs, .slice a l.length c], .slice ra r.length rc, .slice aa v.length ac, .int .u64 (V.toNat : Int)] w fun e w' => e = .returned (.bool true) ∧ Below w.heap.size w w' := by
  have hb0 := below_new12 w (.cells #[.int .i64 regs, .slice a l.length c] 24)
  have hX := Blk.new w 24 #[.int .i64 regs, .slice a l.length c]
  have h1 := h.belowN hb0
  have hr1 := hr.belowN hb0
  have hv1 := hv.belowN hb0
  have HW := hide (SizeW_calls a c l _ h1 hl)
  have hwb : 0 ≤ sizeW l ∧ sizeW l ≤ 65536 := sizeW_bd21 l
  obtain ⟨tn, hwn⟩ : ∃ tn : Nat, sizeW l = tn := ⟨(sizeW l).toNat, by omega⟩
  obtain ⟨S, hS⟩ : ∃ S, sizeE l = S := ⟨_, rfl⟩
  rw [hwn, hS] at HW
  rw [hwn] at hwb
  obtain ⟨rn, hrn⟩ : ∃ rn, rn = r.length := ⟨_, rfl⟩
  obtain ⟨vn, hvn⟩ : ∃ vn, vn = v.length := ⟨_, rfl⟩
  rw [← hrn, ← hvn]
  have HRN := hide hrn
  have HVN := hide hvn
  clear hwn hS hrn hvn h hr hv
  by_cases hg0 : S = 0
  · by_cases hg12 : rn ≤ 100 ∧ vn ≤ 100
    · obtain ⟨hg1, hg2⟩ := hg12
      · cases hs : small13 regs l 100 with
      | false =>
        subst hg0
        have HS := hide hs
        clear hs
        go_enter Try.func7, Try.ntmps7
        go_wp2_with (first
          | (go_at_call 13; go_must ((with_reducible refine (HW.out).mono ?_); rintro e w1 ⟨rfl, hC1⟩; have hz1 := hC1.size; obtain ⟨q0, q1, q2, q3⟩ := (hX.belowN hC1).c2))
          | (go_at_call 21; go_must ((with_reducible refine (Small13_calls regs a c l _ false HS.out _ (h1.belowN hC1) (by omega)).mono ?_); rintro e w2 ⟨rfl, hb2⟩; have hC2 := hC1.trans (hb2.mono hC1.size)))
          | (go_at_call 14; go_must ((with_reducible refine (goes22_calls _).mono ?_); rintro e w8 ⟨rfl, hb8⟩)))
        go_ret
        exact ⟨rfl, hb0.trans ((hC2.trans (hb8.mono hC2.size)).mono hb0.size)⟩
      | true =>
        have hsl := small_le21 hs
        have HS := hide hs
        subst hg0
        obtain ⟨Z, hZ⟩ : ∃ Z, Z = List.replicate tn (0 : UInt64) := ⟨_, rfl⟩
        have hZl : Z.length = tn := by rw [hZ, List.length_replicate]
        obtain ⟨E, hE⟩ : ∃ E, readyS regs l rn tn = E := ⟨_, rfl⟩
        obtain ⟨N, hN⟩ : ∃ N, recN regs l rn tn = N := ⟨_, rfl⟩
        obtain ⟨R', hR'⟩ : ∃ R', recR regs l r Z = R' := ⟨_, rfl⟩
        obtain ⟨T', hT'⟩ : ∃ T', recT regs l r Z = T' := ⟨_, rfl⟩
        obtain ⟨F, hF⟩ : ∃ F, backE regs l rn vn tn = F := ⟨_, rfl⟩
        obtain ⟨X1, hX1⟩ : ∃ X1, backX regs l R' v T' = X1 := ⟨_, rfl⟩
        obtain ⟨Y1, hY1⟩ : ∃ Y1, backY regs l R' v T' = Y1 := ⟨_, rfl⟩
        obtain ⟨X2, hX2⟩ : ∃ X2, backX regs l R' (scaleR V v) T' = X2 := ⟨_, rfl⟩
        obtain ⟨Y2, hY2⟩ : ∃ Y2, backY regs l R' (scaleR V v) T' = Y2 := ⟨_, rfl⟩
        have HQ : Hid (E ≠ 0 ∨ (E = 0 ∧ F = 10 ∧ (vn : Int) ≠ regs) ∨ (E = 0 ∧ F = 0 ∧ r = X1 ∧ r = X2 ∧ scaleR V Y1 = Y2)) := by
          show _ ∨ _
          by_cases hq : E = 0
          · right
            have e1 : readyS regs l r.length Z.length = 0 := by rw [hZl, ← HRN.out, hE]; exact hq
            rcases restores_ok (v := v) V e1 with ⟨k1, k2, k3, k4⟩ | ⟨k1, k2⟩
            · right
              rw [hZl, ← HRN.out, ← HVN.out, hF] at k1
              rw [hR', hT', hX1] at k2
              rw [hR', hT', hX2] at k3
              rw [hR', hT', hY1, hY2] at k4
              exact ⟨hq, k1, k2.symm, k3.symm, k4.symm⟩
            · left
              rw [hZl, ← HRN.out, ← HVN.out, hF] at k1
              exact ⟨hq, k1, by rw [HVN.out]; exact k2⟩
          · left; exact hq
        have hRl : R'.length = rn := by rw [← hR', recR_length, HRN.out]
        have hTl : T'.length = tn := by rw [← hT', recT_length, hZl]
        have hYl : Y1.length = vn := by rw [← hY1, backY_length, HVN.out]
        have HZ := hide hZ
        have HZL := hide hZl.symm
        have HE := hide hE
        have HF := hide hF
        have HN := hide hN
        have HR' := hide hR'
        have HT' := hide hT'
        have HX1 := hide hX1
        have HX2 := hide hX2
        have HY1 := hide hY1
        have HY2 := hide hY2
        have HRL := hide hRl.symm
        have HTL := hide hTl.symm
        have HYL := hide hYl.symm
        have HVS := hide (show vn = (scaleR V v).length by rw [scaleR_length, HVN.out])
        clear hs hE hF hN hR' hT' hX1 hX2 hY1 hY2 hRl hTl hYl hZ hZl
        go_enter Try.func7, Try.ntmps7
        go_wp2_with (first
          | (go_at_call 13; go_must ((with_reducible refine (HW.out).mono ?_); rintro e w1 ⟨rfl, hC1⟩; have hz1 := hC1.size; obtain ⟨q0, q1, q2, q3⟩ := (hX.belowN hC1).c2))
          | (go_at_call 21; go_must ((with_reducible refine (Small13_calls regs a c l _ true HS.out _ (h1.belowN hC1) (by omega)).mono ?_); rintro e w2 ⟨rfl, hb2⟩; have hC2 := hC1.trans (hb2.mono hC1.size); have hsrc := hr1.belowN hC2)))
        have hz2w : w.heap.size + 1 ≤ w2.heap.size := by have := hC2.size; simp at this; omega
        have hOA : Own (w2.alloc (.cells #[] 37)).drew w2.heap.size 37 (some ⟨w2.heap.size, 0, none⟩) 0 ([] : List UInt64) := (Own.new w2 (Nat.le_refl _) 37 UInt64).drew
        have hOB : Own ((w2.alloc (.cells #[] 37)).alloc (.cells (zerosU tn) 37)).drew w2.heap.size 37 (some ⟨w2.heap.size, 0, none⟩) 0 ([] : List UInt64) := ((Own.new w2 (Nat.le_refl _) 37 UInt64).alloc _).drew
        have hOC : Own ((w2.alloc (.cells (zerosU tn) 37)).alloc (.cells #[] 37)).drew w2.heap.size 37 (some ⟨w2.heap.size + 1, 0, none⟩) 0 ([] : List UInt64) := by
          have := (Own.new (B := w2.heap.size) (w2.alloc (.cells (zerosU tn) 37)) (by simp) 37 UInt64).drew
          simp only [World.size_alloc] at this; exact this
        have hNA : Below w2.heap.size w2 (w2.alloc (.cells #[] 37)).drew := Below.drew (below_new12 w2 _)
        have hNB : Below w2.heap.size w2 ((w2.alloc (.cells #[] 37)).alloc (.cells (zerosU tn) 37)).drew := Below.drew (below2 w2 _ _)
        have hNC : Below w2.heap.size w2 ((w2.alloc (.cells (zerosU tn) 37)).alloc (.cells #[] 37)).drew := Below.drew (below2 w2 _ _)
        have hTB : Own ((w2.alloc (.cells #[] 37)).alloc (.cells (zerosU tn) 37)).drew w2.heap.size 37 (some ⟨w2.heap.size + 1, 0, none⟩) tn (List.replicate tn (0 : UInt64)) := by
          have := (ownZ (B := w2.heap.size) (w2.alloc (.cells #[] 37)) (by simp) tn (by omega)).drew
          simp only [World.size_alloc] at this; exact this
        have hTC : Own ((w2.alloc (.cells (zerosU tn) 37)).alloc (.cells #[] 37)).drew w2.heap.size 37 (some ⟨w2.heap.size, 0, none⟩) tn (List.replicate tn (0 : UInt64)) := ((ownZ (B := w2.heap.size) w2 (Nat.le_refl _) tn (by omega)).alloc _).drew
        have hmk := mkU tn ((tn : Int)) rfl (by omega)
        go_region_law (first
          | (refine step_pushAll tyU hOA (l2 := r) (hsrc.belowN hNA) rfl rfl rfl rfl rfl HRN.out (by simp <;> omega) (by omega) (by omega) ?_; intro a3 c3 w3 hown3 hg3 hcs3; have hfA := hg3; have hb3 := below_push hNA hOA hg3 (by simp <;> omega); have hz3 := hb3.size; rw [List.nil_append] at hown3; rw [Nat.zero_add])
          | (refine step_pushAll tyU hOB (l2 := r) (hsrc.belowN hNB) rfl rfl rfl rfl rfl HRN.out (by simp <;> omega) (by omega) (by omega) ?_; intro a3 c3 w3 hown3 hg3 hcs3; have hfB := hg3; have hb3 := below_push hNB hOB hg3 (by simp <;> omega); have hz3 := hb3.size; rw [List.nil_append] at hown3; rw [Nat.zero_add])
          | (refine step_pushAll tyU hOC (l2 := r) (hsrc.belowN hNC) rfl rfl rfl rfl rfl HRN.out (by simp <;> omega) (by omega) (by omega) ?_; intro a3 c3 w3 hown3 hg3 hcs3; have hfC := hg3; have hb3 := below_push hNC hOC hg3 (by simp <;> omega); have hz3 := hb3.size; rw [List.nil_append] at hown3; rw [Nat.zero_add]))
        all_goals
          first
            | (have hgd := hfA
               have hR := (hown3.alloc (.cells (zerosU tn) 37)).mono hz2w
               have hT := (ownZ (B := w2.heap.size) w3 hz3 tn (by omega)).mono hz2w
               have hC4 := hC2.trans ((hb3.trans ((below_new12 w3 (.cells (zerosU tn) 37)).mono hz3)).mono hC2.size)
               have hne3 : ∀ q, a3.map (·.block) = some q → q ≠ w3.heap.size := fun q e => by have := (hown3.blk q e).2; omega
               generalize hW4 : w3.alloc (.cells (zerosU tn) 37) = w4 at *
               generalize w3.heap.size = gt at *
               clear hW4 hfA hg3)
            | (have hgd := hfB
               have hR := hown3.mono hz2w
               have hT := (hTB.grown hg3 (.inr (by simp))).mono hz2w
               have hC4 := hC2.trans (hb3.mono hC2.size)
               have hne3 : ∀ q, a3.map (·.block) = some q → q ≠ w2.heap.size + 1 := fun q e => by
                 rcases hcs3 with h | ⟨g, h, h2⟩
                 · rw [h] at e; simp at e; omega
                 · rw [h] at e; simp at e h2; omega
               generalize w2.heap.size + 1 = gt at *
               obtain ⟨w4, hW4⟩ : ∃ w4, w4 = w3 := ⟨_, rfl⟩
               rw [← hW4] at hR hT hC4 ⊢
               clear hW4 hfB hg3)
            | (have hgd := hfC
               have hR := hown3.mono hz2w
               have hT := (hTC.grown hg3 (.inr (by simp))).mono hz2w
               have hC4 := hC2.trans (hb3.mono hC2.size)
               have hne3 : ∀ q, a3.map (·.block) = some q → q ≠ w2.heap.size := fun q e => by
                 rcases hcs3 with h | ⟨g, h, h2⟩
                 · rw [h] at e; simp at e; omega
                 · rw [h] at e; simp at e h2; omega
               obtain ⟨gt, hgt⟩ : ∃ gt, gt = w2.heap.size := ⟨_, rfl⟩
               rw [← hgt] at hT hne3 ⊢
               obtain ⟨w4, hW4⟩ : ∃ w4, w4 = w3 := ⟨_, rfl⟩
               rw [← hW4] at hR hT hC4 ⊢
               clear hW4 hfC hg3 hgt)
          clear hOA hOB hOC hNA hNB hNC hTB hTC hmk hown3 hb3 hz3 hcs3 hgd
          have hne4 : ∀ q, a3.map (·.block) = some q → (some (⟨gt, 0, none⟩ : Addr)).map (·.block) ≠ some q := fun q e h => hne3 q e (by simp at h; exact h.symm)
          have hz4 := hC4.size
          simp only [World.size_alloc] at hz4
        all_goals
          rw [← HZ.out] at hT
          obtain ⟨u0, u1, u2, u3⟩ := (hX.belowN hC4).c2
          rcases HQ.out with hE0 | ⟨hE0, hF0, hv0⟩ | ⟨hE0, hF0, hx1, hx2, hy2⟩
          · have e1 : (E == 0) = false := by simpa using hE0
            have e2 : (E != 0) = true := by simpa using hE0
            clear hE0
            go_wp2_with (first
              | (go_at_call 25; go_must ((with_reducible refine (RecordN regs a c _ l rfl a3 c3 rn r HRN.out (w.heap.size + 1) (some ⟨gt, 0, none⟩) tn tn Z HZL.out (w.heap.size + 1) N E R' T' HN.out HE.out HR'.out HT'.out w4 (h1.belowN hC4) (by omega) hR hT (by omega) (by omega) hne4).mono ?_); rintro e w5 ⟨rfl, hR5, hT5, hTu5⟩; have hC5 := hTu5.below hC4 (fun q hq => by rcases List.mem_append.1 hq with hq | hq <;> first | (have h1 := (hR.blk q (blkL_mem.1 hq)).1; simp; omega) | (have h1 := (hT.blk q (blkL_mem.1 hq)).1; simp; omega)) hC4.size; have hz5 := hTu5.size; obtain ⟨p0, p1, p2, p3⟩ := (hX.belowN hC5).c2; have t5 := (hX.belowN hC5).lt))
              | (go_at_call 14; go_must ((with_reducible refine (goes22_calls _).mono ?_); rintro e w9 ⟨rfl, hb9⟩)))
            go_ret
            exact ⟨rfl, hb0.trans ((hC5.trans (hb9.mono hC5.size)).mono hb0.size)⟩
          · subst hE0 hF0
            have f1 : ((vn : Int) == regs) = false := by simpa using hv0
            have f2 : ((vn : Int) != regs) = true := by simpa using hv0
            clear hv0
            go_wp2_with (first
              | (go_at_call 25; go_must ((with_reducible refine (RecordN regs a c _ l rfl a3 c3 rn r HRN.out (w.heap.size + 1) (some ⟨gt, 0, none⟩) tn tn Z HZL.out (w.heap.size + 1) N 0 R' T' HN.out HE.out HR'.out HT'.out w4 (h1.belowN hC4) (by omega) hR hT (by omega) (by omega) hne4).mono ?_); rintro e w5 ⟨rfl, hR5, hT5, hTu5⟩; have hC5 := hTu5.below hC4 (fun q hq => by rcases List.mem_append.1 hq with hq | hq <;> first | (have h1 := (hR.blk q (blkL_mem.1 hq)).1; simp; omega) | (have h1 := (hT.blk q (blkL_mem.1 hq)).1; simp; omega)) hC4.size; have hz5 := hTu5.size; obtain ⟨p0, p1, p2, p3⟩ := (hX.belowN hC5).c2; have t5 := (hX.belowN hC5).lt))
              | (at_builtin; first
                | (have hgd := w6; go_must (refine wpList_ownAll tyU (hv1.belowN hC6) rfl rfl rfl rfl HVN.out (by omega) ?_; intro a7 c7 w7 hown7 hb7; have hC7 := hC6.trans (hb7.mono hC6.size)))
                | go_must (refine wpList_ownAll tyU hR5.at_ rfl rfl rfl rfl HRL.out (by omega) ?_; intro a6 c6 w6 hown6 hb6; have hC6 := hC5.trans (hb6.mono hC5.size))))
            have hR7 := (hR5.belowN hb6).belowN hb7
            have hT7 := (hT5.belowN hb6).belowN hb7
            have hS7 := hown6.belowN hb7
            have hv7 := hv1.belowN hC7
            have hz6 := hb6.size
            have hz7 := hb7.size
            have d3 : ∀ q, a3.map (·.block) = some q → w.heap.size + 1 ≤ q ∧ q < w5.heap.size := hR5.blk
            have d4 : w.heap.size + 1 ≤ gt ∧ gt < w5.heap.size := hT5.blk gt rfl
            have d6 : ∀ q, a6.map (·.block) = some q → w5.heap.size ≤ q ∧ q < w6.heap.size := hown6.blk
            have d7 : ∀ q, a7.map (·.block) = some q → w6.heap.size ≤ q ∧ q < w7.heap.size := hown7.blk
            have HD3 := hide d3
            have HD6 := hide d6
            have HD7 := hide d7
            clear hR5 hT5 hown6 hb6 hb7 hR hT hTu5 p0 p1 p2 p3 u0 u1 u2 u3 d3 d6 d7
            go_loopw [17, 18] (fun bv iv wr => ∃ (k : Nat) (ab : Option Addr) (cb : Nat), iv = .int .i64 k ∧ k ≤ vn ∧ bv = .slice ab k cb ∧ Own wr w7.heap.size 37 ab cb (scaleR V (v.take k)) ∧ Below w7.heap.size w7 wr) (fun _ iv _ => vn - (intOf iv).toNat)
            case atStart => exact ⟨0, _, 0, rfl, by omega, rfl, Own.new w7 (Nat.le_refl _) _ UInt64, below_new12 w7 _⟩
            case round =>
              obtain ⟨k, ab, cb, rfl, hk, rfl, hB, hb⟩ := hrel
              have hzr := hb.size
              by_cases hlt : k < vn
              · obtain ⟨b1, off1, x, rfl, hx, c0⟩ := hv7.getU hb (show k < v.length by have := HVN.out; omega)
                have HX := hide (show scaleR V (v.take k) ++ [V * x] = scaleR V (v.take (k + 1)) by rw [List.take_add_one, hx.out]; simp [scaleR])
                have HKL := hide (show k = (scaleR V (v.take k)).length by have := HVN.out; rw [scaleR_length, List.length_take]; omega)
                have hM := At.ofBlk (Blk.new wr 37 #[.int .u64 (V.toNat : Int), .int .u64 (x.toNat : Int)]) [V, x] rfl
                have hbM := hb.trans ((below_new12 wr (.cells #[.int .u64 (V.toNat : Int), .int .u64 (x.toNat : Int)] 37)).mono hzr)
                have hBM := hB.alloc (.cells #[.int .u64 (V.toNat : Int), .int .u64 (x.toNat : Int)] 37)
                go_wp2_with (first
                  | (go_at_call 26; go_must ((with_reducible refine (RMul_calls V x _ _ _ hM).mono ?_); rintro e wm ⟨rfl, hwm⟩; subst hwm))
                  | (at_builtin; refine wpList_push tyU hBM (V * x) rfl rfl rfl rfl rfl (by simp) HKL.out hbM.size (by omega) ?_; intro a8 c8 w8 hown8 hg8 _))
                go_roundw
                case rel => exact ⟨k + 1, a8, c8, by go_num, by omega, rfl, by rw [← HX.out]; exact hown8, below_push hbM hBM hg8 hbM.size⟩
                case measure => simp [intOf] <;> omega
              · have hkn : k = vn := by omega
                subst hkn
                rw [show v.take k = v by rw [HVN.out, List.take_length]] at hB
                clear hlt hk
                obtain ⟨wo, rfl⟩ : ∃ wo : World, wo = wr := ⟨_, rfl⟩
                have hC8 := hC7.trans (hb.mono hC7.size)
                have hR8 := (hR7.belowN hb).drew
                have hT8 := (hT7.belowN hb).drew
                have hS8 := (hS7.belowN hb).drew
                have hA8 := (hown7.belowN hb).drew
                have hB8 := hB.drew
                have hd8 : Below _ _ wo.drew := Below.drew hC8
                obtain ⟨q0, q1, q2, q3⟩ := (hX.belowN hC8).c2
                have d8 : ∀ q, ab.map (·.block) = some q → w7.heap.size ≤ q := fun q e => (hB.blk q e).1
                have HD8 := hide d8
                have hgl : gt < wo.heap.size := by omega
                have hN1 : ∀ q, (some (⟨gt, 0, none⟩ : Addr)).map (·.block) = some q → a3.map (·.block) ≠ some q ∧ a7.map (·.block) ≠ some q := fun q e1 => ⟨fun e2 => hne4 q e2 e1, fun e2 => by have h1 := HD7.out q e2; simp at e1; omega⟩
                have hN2 : ∀ q, (some (⟨gt, 0, none⟩ : Addr)).map (·.block) = some q → a6.map (·.block) ≠ some q ∧ ab.map (·.block) ≠ some q := fun q e1 => ⟨fun e2 => by have h1 := HD6.out q e2; simp at e1; omega, fun e2 => by have h1 := d8 q e2; simp at e1; omega⟩
                clear hR7 hT7 hS7 hown7 hB hv7 d8
                go_wp2_with fail
                go_region_held3 (fun w' => w'.cell? ⟨w.heap.size, 0, none⟩ = some (.int .i64 regs) ∧ w'.cell? ⟨w.heap.size, 1, none⟩ = some (.slice a l.length c)) (go_keep)
                  (first
                    | (have hgd := hB9; go_at_call 22; go_must ((with_reducible refine (Back_calls regs a c _ l rfl a6 rn c6 ab k cb (some ⟨gt, 0, none⟩) tn tn w5.heap.size w7.heap.size R' (scaleR V v) T' _ _ _ HRL.out HVS.out HTL.out HF.out HX2.out HY2.out w9 (h1.belowN hC9) (by omega) hS9 hB9 hT9.at_ (by omega) (by omega) (by omega) (fun q e1 e2 => by have h1 := HD6.out q e1; have h2 := HD8.out q e2; omega) hN2).mono ?_); rintro e w10 ⟨rfl, hS10, hB10, hTu10⟩; have hC10 := hTu10.below hC9 (fun q hq => by rcases List.mem_append.1 hq with hq | hq <;> first | (have h1 := HD6.out q (blkL_mem.1 hq); simp; omega) | (have h1 := HD8.out q (blkL_mem.1 hq); simp; omega)) hC9.size; have hR10 := hR9.turned hTu10 (fun q e1 hq => by have h0 := HD3.out q e1; rcases List.mem_append.1 hq with hq | hq <;> first | (have h1 := HD6.out q (blkL_mem.1 hq); omega) | (have h1 := HD8.out q (blkL_mem.1 hq); omega)); have hA10 := hA9.turned hTu10 (fun q e1 hq => by have h0 := HD7.out q e1; rcases List.mem_append.1 hq with hq | hq <;> first | (have h1 := HD6.out q (blkL_mem.1 hq); omega) | (have h1 := HD8.out q (blkL_mem.1 hq); omega)); obtain ⟨t0, t1, _⟩ := (hX.belowN hC10).c2))
                    | (go_at_call 22; go_must ((with_reducible refine (Back_calls regs a c _ l rfl a3 rn c3 a7 k c7 (some ⟨gt, 0, none⟩) tn tn (w.heap.size + 1) w6.heap.size R' v T' _ _ _ HRL.out HVN.out HTL.out HF.out HX1.out HY1.out wo.drew (h1.belowN hd8) (by omega) hR8 hA8 hT8.at_ (by omega) (by omega) (by omega) (fun q e1 e2 => by have h1 := HD3.out q e1; have h2 := HD7.out q e2; omega) hN1).mono ?_); rintro e w9 ⟨rfl, hR9, hA9, hTu9⟩; have hC9 := hTu9.below hd8 (fun q hq => by rcases List.mem_append.1 hq with hq | hq <;> first | (have h1 := HD3.out q (blkL_mem.1 hq); simp; omega) | (have h1 := HD7.out q (blkL_mem.1 hq); simp; omega)) hd8.size; have hz9 := hTu9.size; have hS9 := hS8.turned hTu9 (fun q e1 hq => by have h0 := HD6.out q e1; rcases List.mem_append.1 hq with hq | hq <;> first | (have h1 := HD3.out q (blkL_mem.1 hq); omega) | (have h1 := HD7.out q (blkL_mem.1 hq); omega)); have hB9 := hB8.turned hTu9 (fun q e1 hq => by have h0 := HD8.out q e1; rcases List.mem_append.1 hq with hq | hq <;> first | (have h1 := HD3.out q (blkL_mem.1 hq); omega) | (have h1 := HD7.out q (blkL_mem.1 hq); omega)); have hT9 := hT8.turned hTu9 (fun q e1 hq => by rcases List.mem_append.1 hq with hq | hq <;> first | exact hne4 q (blkL_mem.1 hq) e1 | (have h1 := HD7.out q (blkL_mem.1 hq); simp at e1; omega)); obtain ⟨t0, t1, _⟩ := (hX.belowN hC9).c2)))
                have hz10 := hC10.size
                go_wp2_with (go_at_call 14; go_must ((with_reducible refine (goes22_calls _).mono ?_); rintro e w11 ⟨rfl, hb11⟩))
                go_ret
                exact ⟨rfl, hb0.trans ((hC10.trans (hb11.mono hz10)).mono hb0.size)⟩
          · subst hE0 hF0 hx1 hx2 hy2
            go_wp2_with (first
              | (go_at_call 25; go_must ((with_reducible refine (RecordN regs a c _ l rfl a3 c3 rn r HRN.out (w.heap.size + 1) (some ⟨gt, 0, none⟩) tn tn Z HZL.out (w.heap.size + 1) N 0 R' T' HN.out HE.out HR'.out HT'.out w4 (h1.belowN hC4) (by omega) hR hT (by omega) (by omega) hne4).mono ?_); rintro e w5 ⟨rfl, hR5, hT5, hTu5⟩; have hC5 := hTu5.below hC4 (fun q hq => by rcases List.mem_append.1 hq with hq | hq <;> first | (have h1 := (hR.blk q (blkL_mem.1 hq)).1; simp; omega) | (have h1 := (hT.blk q (blkL_mem.1 hq)).1; simp; omega)) hC4.size; have hz5 := hTu5.size; obtain ⟨p0, p1, p2, p3⟩ := (hX.belowN hC5).c2; have t5 := (hX.belowN hC5).lt))
              | (at_builtin; first
                | (have hgd := w6; go_must (refine wpList_ownAll tyU (hv1.belowN hC6) rfl rfl rfl rfl HVN.out (by omega) ?_; intro a7 c7 w7 hown7 hb7; have hC7 := hC6.trans (hb7.mono hC6.size)))
                | go_must (refine wpList_ownAll tyU hR5.at_ rfl rfl rfl rfl HRL.out (by omega) ?_; intro a6 c6 w6 hown6 hb6; have hC6 := hC5.trans (hb6.mono hC5.size))))
            have hR7 := (hR5.belowN hb6).belowN hb7
            have hT7 := (hT5.belowN hb6).belowN hb7
            have hS7 := hown6.belowN hb7
            have hv7 := hv1.belowN hC7
            have hz6 := hb6.size
            have hz7 := hb7.size
            have d3 : ∀ q, a3.map (·.block) = some q → w.heap.size + 1 ≤ q ∧ q < w5.heap.size := hR5.blk
            have d4 : w.heap.size + 1 ≤ gt ∧ gt < w5.heap.size := hT5.blk gt rfl
            have d6 : ∀ q, a6.map (·.block) = some q → w5.heap.size ≤ q ∧ q < w6.heap.size := hown6.blk
            have d7 : ∀ q, a7.map (·.block) = some q → w6.heap.size ≤ q ∧ q < w7.heap.size := hown7.blk
            have HD3 := hide d3
            have HD6 := hide d6
            have HD7 := hide d7
            clear hR5 hT5 hown6 hb6 hb7 hR hT hTu5 p0 p1 p2 p3 u0 u1 u2 u3 d3 d6 d7
            go_loopw [17, 18] (fun bv iv wr => ∃ (k : Nat) (ab : Option Addr) (cb : Nat), iv = .int .i64 k ∧ k ≤ vn ∧ bv = .slice ab k cb ∧ Own wr w7.heap.size 37 ab cb (scaleR V (v.take k)) ∧ Below w7.heap.size w7 wr) (fun _ iv _ => vn - (intOf iv).toNat)
            case atStart => exact ⟨0, _, 0, rfl, by omega, rfl, Own.new w7 (Nat.le_refl _) _ UInt64, below_new12 w7 _⟩
            case round =>
              obtain ⟨k, ab, cb, rfl, hk, rfl, hB, hb⟩ := hrel
              have hzr := hb.size
              by_cases hlt : k < vn
              · obtain ⟨b1, off1, x, rfl, hx, c0⟩ := hv7.getU hb (show k < v.length by have := HVN.out; omega)
                have HX := hide (show scaleR V (v.take k) ++ [V * x] = scaleR V (v.take (k + 1)) by rw [List.take_add_one, hx.out]; simp [scaleR])
                have HKL := hide (show k = (scaleR V (v.take k)).length by have := HVN.out; rw [scaleR_length, List.length_take]; omega)
                have hM := At.ofBlk (Blk.new wr 37 #[.int .u64 (V.toNat : Int), .int .u64 (x.toNat : Int)]) [V, x] rfl
                have hbM := hb.trans ((below_new12 wr (.cells #[.int .u64 (V.toNat : Int), .int .u64 (x.toNat : Int)] 37)).mono hzr)
                have hBM := hB.alloc (.cells #[.int .u64 (V.toNat : Int), .int .u64 (x.toNat : Int)] 37)
                go_wp2_with (first
                  | (go_at_call 26; go_must ((with_reducible refine (RMul_calls V x _ _ _ hM).mono ?_); rintro e wm ⟨rfl, hwm⟩; subst hwm))
                  | (at_builtin; refine wpList_push tyU hBM (V * x) rfl rfl rfl rfl rfl (by simp) HKL.out hbM.size (by omega) ?_; intro a8 c8 w8 hown8 hg8 _))
                go_roundw
                case rel => exact ⟨k + 1, a8, c8, by go_num, by omega, rfl, by rw [← HX.out]; exact hown8, below_push hbM hBM hg8 hbM.size⟩
                case measure => simp [intOf] <;> omega
              · have hkn : k = vn := by omega
                subst hkn
                rw [show v.take k = v by rw [HVN.out, List.take_length]] at hB
                clear hlt hk
                obtain ⟨wo, rfl⟩ : ∃ wo : World, wo = wr := ⟨_, rfl⟩
                have hC8 := hC7.trans (hb.mono hC7.size)
                have hR8 := (hR7.belowN hb).drew
                have hT8 := (hT7.belowN hb).drew
                have hS8 := (hS7.belowN hb).drew
                have hA8 := (hown7.belowN hb).drew
                have hB8 := hB.drew
                have hd8 : Below _ _ wo.drew := Below.drew hC8
                obtain ⟨q0, q1, q2, q3⟩ := (hX.belowN hC8).c2
                have d8 : ∀ q, ab.map (·.block) = some q → w7.heap.size ≤ q := fun q e => (hB.blk q e).1
                have HD8 := hide d8
                have hgl : gt < wo.heap.size := by omega
                have hN1 : ∀ q, (some (⟨gt, 0, none⟩ : Addr)).map (·.block) = some q → a3.map (·.block) ≠ some q ∧ a7.map (·.block) ≠ some q := fun q e1 => ⟨fun e2 => hne4 q e2 e1, fun e2 => by have h1 := HD7.out q e2; simp at e1; omega⟩
                have hN2 : ∀ q, (some (⟨gt, 0, none⟩ : Addr)).map (·.block) = some q → a6.map (·.block) ≠ some q ∧ ab.map (·.block) ≠ some q := fun q e1 => ⟨fun e2 => by have h1 := HD6.out q e2; simp at e1; omega, fun e2 => by have h1 := d8 q e2; simp at e1; omega⟩
                clear hR7 hT7 hS7 hown7 hB hv7 d8
                go_wp2_with fail
                go_region_held3 (fun w' => w'.cell? ⟨w.heap.size, 0, none⟩ = some (.int .i64 regs) ∧ w'.cell? ⟨w.heap.size, 1, none⟩ = some (.slice a l.length c)) (go_keep)
                  (first
                    | (have hgd := hB9; go_at_call 22; go_must ((with_reducible refine (Back_calls regs a c _ l rfl a6 rn c6 ab k cb (some ⟨gt, 0, none⟩) tn tn w5.heap.size w7.heap.size R' (scaleR V v) T' _ _ _ HRL.out HVS.out HTL.out HF.out HX2.out HY2.out w9 (h1.belowN hC9) (by omega) hS9 hB9 hT9.at_ (by omega) (by omega) (by omega) (fun q e1 e2 => by have h1 := HD6.out q e1; have h2 := HD8.out q e2; omega) hN2).mono ?_); rintro e w10 ⟨rfl, hS10, hB10, hTu10⟩; have hC10 := hTu10.below hC9 (fun q hq => by rcases List.mem_append.1 hq with hq | hq <;> first | (have h1 := HD6.out q (blkL_mem.1 hq); simp; omega) | (have h1 := HD8.out q (blkL_mem.1 hq); simp; omega)) hC9.size; have hR10 := hR9.turned hTu10 (fun q e1 hq => by have h0 := HD3.out q e1; rcases List.mem_append.1 hq with hq | hq <;> first | (have h1 := HD6.out q (blkL_mem.1 hq); omega) | (have h1 := HD8.out q (blkL_mem.1 hq); omega)); have hA10 := hA9.turned hTu10 (fun q e1 hq => by have h0 := HD7.out q e1; rcases List.mem_append.1 hq with hq | hq <;> first | (have h1 := HD6.out q (blkL_mem.1 hq); omega) | (have h1 := HD8.out q (blkL_mem.1 hq); omega)); obtain ⟨t0, t1, _⟩ := (hX.belowN hC10).c2))
                    | (go_at_call 22; go_must ((with_reducible refine (Back_calls regs a c _ l rfl a3 rn c3 a7 k c7 (some ⟨gt, 0, none⟩) tn tn (w.heap.size + 1) w6.heap.size R' v T' _ _ _ HRL.out HVN.out HTL.out HF.out HX1.out HY1.out wo.drew (h1.belowN hd8) (by omega) hR8 hA8 hT8.at_ (by omega) (by omega) (by omega) (fun q e1 e2 => by have h1 := HD3.out q e1; have h2 := HD7.out q e2; omega) hN1).mono ?_); rintro e w9 ⟨rfl, hR9, hA9, hTu9⟩; have hC9 := hTu9.below hd8 (fun q hq => by rcases List.mem_append.1 hq with hq | hq <;> first | (have h1 := HD3.out q (blkL_mem.1 hq); simp; omega) | (have h1 := HD7.out q (blkL_mem.1 hq); simp; omega)) hd8.size; have hz9 := hTu9.size; have hS9 := hS8.turned hTu9 (fun q e1 hq => by have h0 := HD6.out q e1; rcases List.mem_append.1 hq with hq | hq <;> first | (have h1 := HD3.out q (blkL_mem.1 hq); omega) | (have h1 := HD7.out q (blkL_mem.1 hq); omega)); have hB9 := hB8.turned hTu9 (fun q e1 hq => by have h0 := HD8.out q e1; rcases List.mem_append.1 hq with hq | hq <;> first | (have h1 := HD3.out q (blkL_mem.1 hq); omega) | (have h1 := HD7.out q (blkL_mem.1 hq); omega)); have hT9 := hT8.turned hTu9 (fun q e1 hq => by rcases List.mem_append.1 hq with hq | hq <;> first | exact hne4 q (blkL_mem.1 hq) e1 | (have h1 := HD7.out q (blkL_mem.1 hq); simp at e1; omega)); obtain ⟨t0, t1, _⟩ := (hX.belowN hC9).c2)))
                have hz10 := hC10.size
                go_wp2_with fail
                go_loopw [21] (fun iv wr => ∃ j : Nat, iv = .int .i64 j ∧ j ≤ k ∧ Below w10.heap.size w10 wr) (fun iv _ => k - (intOf iv).toNat)
                case atStart => exact ⟨0, rfl, by omega, Below.refl _ _⟩
                case round =>
                  obtain ⟨j, rfl, hj, hb'⟩ := hrel
                  have hzr' := hb'.size
                  by_cases hlt : j < k
                  · obtain ⟨b1, off1, y, rfl, hy, e0⟩ := hA10.at_.getU hb' (show j < Y1.length by have := HYL.out; omega)
                    obtain ⟨b2, off2, z, rfl, hz, e1⟩ := hB10.at_.getU hb' (show j < (scaleR V Y1).length by have := HYL.out; rw [scaleR_length]; omega)
                    have hzy : z = V * y := by
                      have h2 := hz.out
                      unfold scaleR at h2
                      rw [List.getElem?_map, hy.out] at h2
                      simpa using h2.symm
                    subst hzy
                    have hM0 := At.ofBlk (Blk.new wr 37 #[.int .u64 (V.toNat : Int), .int .u64 (y.toNat : Int)]) [V, y] rfl
                    have hM : At (wr.alloc (.cells #[.int .u64 (V.toNat : Int), .int .u64 (y.toNat : Int)] 37)).drew (some ⟨wr.heap.size, 0, none⟩) [V, y] := hM0
                    clear hM0
                    have hbM := hb'.trans ((below_new12 wr (.cells #[.int .u64 (V.toNat : Int), .int .u64 (y.toNat : Int)] 37)).mono hzr')
                    obtain ⟨y0, _⟩ := bcell (below_new12 wr (.cells #[.int .u64 (V.toNat : Int), .int .u64 (y.toNat : Int)] 37))
                    have e2 := (y0 b1 (off1 + j) (by have := (hA10.blk b1 rfl).2; omega)).trans e0
                    have e3 := (y0 b2 (off2 + j) (by have := (hB10.blk b2 rfl).2; omega)).trans e1
                    clear y0
                    go_wp2_with fail
                    go_region_law (go_simp; go_at_call 26; go_must ((with_reducible refine (RMul_calls V y _ _ _ hM).mono ?_); rintro e wm ⟨rfl, hwm⟩; subst hwm))
                    all_goals
                      go_wp2
                      go_roundw
                      case rel => exact ⟨j + 1, by go_num, by omega, hbM.drew⟩
                      case measure => simp [intOf] <;> omega
                  · have hjk : j = k := by omega
                    subst hjk
                    clear hlt hj
                    have hC11 := hC10.trans (hb'.mono hz10)
                    have hR11 := (hR10.belowN hb').at_
                    have hS11 := (hS10.belowN hb').at_
                    go_wp2_with (first
                      | (go_at_call 17; first
                        | (have hgd := q12; go_must ((with_reducible refine (Same5N _ _ rn rn _ _ r _ HRN.out HRN.out hS12 (hr1.belowN hC12) (by omega)).mono ?_); rintro e w13 ⟨rfl, q13, hw13⟩; have hC13 : Below _ _ w13 := (by rw [hw13]; exact below_drewN hC12 _); clear hw13))
                        | go_must ((with_reducible refine (Same5N _ _ rn rn _ _ r _ HRN.out HRN.out hR11 (hr1.belowN hC11) (by omega)).mono ?_); rintro e w12 ⟨rfl, q12, hw12⟩; have hC12 : Below _ _ w12 := (by rw [hw12]; exact below_drewN hC11 _); have hS12 : At w12 a6 r := (by rw [hw12]; exact hS11.drewN _); clear hw12))
                      | (go_at_call 14; go_must ((with_reducible refine (goes22_calls _).mono ?_); rintro e w14 ⟨rfl, hb14⟩; have hC14 := hC13.trans (hb14.mono hC13.size))))
                    go_ret
                    exact ⟨rfl, hb0.trans (hC14.mono hb0.size)⟩
    · by_cases hg1 : rn ≤ 100
      · have hg2 : ¬ vn ≤ 100 := fun hg2 => hg12 ⟨hg1, hg2⟩
        clear hg12
        subst hg0
        go_enter Try.func7, Try.ntmps7
        go_wp2_with (first
          | (go_at_call 13; go_must ((with_reducible refine (HW.out).mono ?_); rintro e w1 ⟨rfl, hC1⟩; have hz1 := hC1.size; obtain ⟨q0, q1, q2, q3⟩ := (hX.belowN hC1).c2))
          | (go_at_call 14; go_must ((with_reducible refine (goes22_calls _).mono ?_); rintro e w8 ⟨rfl, hb8⟩)))
        go_ret
        exact ⟨rfl, hb0.trans ((hC1.trans (hb8.mono hC1.size)).mono hb0.size)⟩
      · clear hg12
        subst hg0
        go_enter Try.func7, Try.ntmps7
        go_wp2_with (first
          | (go_at_call 13; go_must ((with_reducible refine (HW.out).mono ?_); rintro e w1 ⟨rfl, hC1⟩; have hz1 := hC1.size; obtain ⟨q0, q1, q2, q3⟩ := (hX.belowN hC1).c2))
          | (go_at_call 14; go_must ((with_reducible refine (goes22_calls _).mono ?_); rintro e w8 ⟨rfl, hb8⟩)))
        go_ret
        exact ⟨rfl, hb0.trans ((hC1.trans (hb8.mono hC1.size)).mono hb0.size)⟩
  · have e1 : (S == 0) = false := by simpa using hg0
    have e2 : (S != 0) = true := by simpa using hg0
    clear hg0
    go_enter Try.func7, Try.ntmps7
    go_wp2_with (first
      | (go_at_call 13; go_must ((with_reducible refine (HW.out).mono ?_); rintro e w1 ⟨rfl, hC1⟩; have hz1 := hC1.size; obtain ⟨q0, q1, q2, q3⟩ := (hX.belowN hC1).c2))
      | (go_at_call 14; go_must ((with_reducible refine (goes22_calls _).mono ?_); rintro e w8 ⟨rfl, hb8⟩)))
    go_ret
    exact ⟨rfl, hb0.trans ((hC1.trans (hb8.mono hC1.size)).mono hb0.size)⟩
end Go.Proofs.Ytjfpnbnkfcgjcaa
