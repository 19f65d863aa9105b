/- Chapter 21: TapeBack. -/
import Derived.Deep.RegionLaw
import Derived.Test.YtjfpnbnkfcgjcaaW21a
import Derived.Test.YtjfpnbnkfcgjcaaQa
namespace Go.Proofs.Ytjfpnbnkfcgjcaa
set_option linter.unusedVariables false
set_option linter.unusedSimpArgs false
open Go.RowKit
/-- so many noughts -/
def zerosU (n : Nat) : Array Value := (List.replicate n (Value.int .u64 0)).toArray
theorem zeros_made (n : Nat) : madeCells #[Value.int .u64 0] n = zerosU n := by
  apply Array.ext
  · simp [madeCells, zerosU]
  · intro i h1 h2
    simp [madeCells, zerosU, Nat.mod_one]
theorem mkU (n : Nat) (N : Int) (hN : N = (n : Int)) (hn : n ≤ 1000000000) (W : World) : (Instr.makeSlice 25 (.int .i64 N) (.int .i64 N)).run Try.prog W = .ok (.slice (some ⟨W.heap.size, 0, none⟩) n n) (W.alloc (.cells (zerosU n) 37)) := by
  subst hN
  rw [← zeros_made]
  exact run_make_row' 25 37 (.int .u64 0) 8 Try.underlying25 (by kernel_rfl) rfl .i64 .i64 n (by omega) (by omega) W
theorem ownZ {B : Nat} (W : World) (hB : B ≤ W.heap.size) (n : Nat) (hn : n ≤ 1000000000) : Own (W.alloc (.cells (zerosU n) 37)) B 37 (some ⟨W.heap.size, 0, none⟩) n (List.replicate n (0 : UInt64)) :=
  Own.made W hB 37 (zerosU n) _ (by rw [enc_map, List.map_replicate]; rfl) (by rw [List.length_replicate]; unfold maxLen; omega) n (by rw [List.length_replicate])
theorem sizeW_bd21 (l : List OpD) : 0 ≤ sizeW l ∧ sizeW l ≤ 65536 := by
  cases hw : well l with
  | false => rw [(size_bad hw).2.1]; omega
  | true =>
    obtain ⟨f, hf, rfl⟩ := forest_of_well l hw
    rw [(sizes_flat hf).1]
    split
    · rename_i h; have := h.2; omega
    · omega
theorem i64_id {x : Int} (h1 : 0 ≤ x) (h2 : x < 9223372036854775808) : IntKind.i64.wrap x = x := by
  simp [IntKind.wrap, IntKind.bits, IntKind.signed]
  omega
theorem uptoS_len21 (regs : Int) (l : List OpD) (r : List UInt64) (m : Int) : (uptoS regs l r m).length ≤ 64 := by
  by_cases h : dimsS regs l r.length = 0
  · obtain ⟨f, rfl, g, hn⟩ := dims_good h
    rw [uptoS_good g hn, runR_length, startR_length _ _ (by omega)]
    have := g.r2; omega
  · rw [uptoS_bad h]; simp
theorem startR_full {n : Nat} {r : List UInt64} (h : r.length = n) : startR n r = r := by subst h; simp [startR]
theorem back21_ok {regs : Int} {l : List OpD} {r t : List UInt64} (h : readyS regs l r.length t.length = 0) :
    dimsS regs l r.length = 0 ∧ recN regs l r.length t.length = sizeW l ∧ uptoS regs l r (-1) = recR regs l r t ∧ undS regs l (recR regs l r t) (recT regs l r t) = r := by
  obtain ⟨f, rfl, g, hn, hu⟩ := ready_good h
  obtain ⟨e1, e2, e3, _⟩ := rec_good g hn hu
  rw [e1, e2, e3]
  refine ⟨dims_of_good g (by omega), g.sizeW.1.symm, ?_, ?_⟩
  · rw [uptoS_good g (by omega), startR_full (by omega)]; rfl
  · obtain ⟨_, _, _, e4⟩ := rec_good g (r := runR f.unroll r) (t := tpR f.unroll r t) (by rw [runR_length]; exact hn) (by rw [tpR_length _ _ _ hu]; exact hu)
    rw [e4, undo_tp]
theorem back21_no {regs : Int} {l : List OpD} {rn tn : Nat} (h : readyS regs l rn tn ≠ 0) (hw : sizeW l ≤ (tn : Int)) : dimsS regs l rn ≠ 0 ∨ (dimsS regs l rn = 0 ∧ (rn : Int) < regs ∧ readyS regs l rn tn = 10) := by
  by_cases hc : checkS regs l = 0
  · obtain ⟨f, rfl, g⟩ := good_of_check hc
    rw [g.sizeW.1] at hw
    have hn : ¬ (rn : Int) = regs := fun hn => h (ready_of_good g hn (by omega))
    by_cases hd : regs < (rn : Int)
    · left; unfold dimsS; rw [if_neg (by simpa using hc), if_pos hd]; decide
    · right
      refine ⟨dims_of_good g (by omega), by omega, ?_⟩
      unfold readyS; rw [if_neg (by simpa using hc), if_pos hn]
  · left; unfold dimsS; rw [if_pos hc]; exact hc
set_option maxRecDepth 100000 in
set_option maxHeartbeats 6400000 in
theorem TapeBack_calls (regs : Int) (a : Option Addr) (c : Nat) (l : List OpD) (ra : Option Addr) (rc : Nat) (r : List UInt64) (m : Int) (w : World) (h : At w a l) (hr : At w ra r) (hl : l.length ≤ 1000000) (hm : 0 ≤ m ∧ m ≤ 255) :
    Calls Try.prog 11 #[.agg #[.int .i64 regs, .slice a l.length c], .slice ra r.length rc, .int .u8 m] w fun e w' => e = .returned (.bool true) ∧ Below w.heap.size w w' := by
  have hb0 := below_new12 w (.cells #[.int .i64 regs, .slice a l.length c] 24)
  have hX := Blk.new w 24 #[.int .i64 regs, .slice a l.length c]
  have h1 := h.belowN hb0
  have hr1 := hr.belowN hb0
  have HW := hide (SizeW_calls a c l _ h1 hl)
  have hwb : 0 ≤ sizeW l ∧ sizeW l ≤ 65536 := sizeW_bd21 l
  obtain ⟨mn, rfl⟩ : ∃ mn : Nat, m = mn := ⟨m.toNat, by omega⟩
  obtain ⟨wn, hwn⟩ : ∃ wn : Nat, sizeW l = wn := ⟨(sizeW l).toNat, by omega⟩
  obtain ⟨S, hS⟩ : ∃ S, sizeE l = S := ⟨_, rfl⟩
  rw [hwn, hS] at HW
  rw [hwn] at hwb
  have HWN := hide hwn
  obtain ⟨rn, hrn⟩ : ∃ rn, rn = r.length := ⟨_, rfl⟩
  rw [← hrn]
  have HRN := hide hrn
  clear hwn hS hrn
  by_cases hg0 : S = 0
  · by_cases hg1 : rn ≤ 100
    · cases hs : small13 regs l 100 with
      | false =>
        subst hg0
        have HS := hide hs
        clear hs
        go_enter Try.func11, Try.ntmps11
        go_wp2_with (first
          | (go_at_call 13; go_must ((with_reducible refine (HW.out).mono ?_); rintro e w1 ⟨rfl, hC1⟩; have hz1 := hC1.size; obtain ⟨q0, q1, q2, q3⟩ := (hX.belowN hC1).c2))
          | (go_at_call 21; go_must ((with_reducible refine (Small13_calls regs a c l _ false HS.out _ (h1.belowN hC1) (by omega)).mono ?_); rintro e w2 ⟨rfl, hb2⟩; have hC2 := hC1.trans (hb2.mono hC1.size)))
          | (go_at_call 18; go_must ((with_reducible refine (goes21_calls _).mono ?_); rintro e w8 ⟨rfl, hb8⟩)))
        go_ret
        exact ⟨rfl, hb0.trans ((hC2.trans (hb8.mono hC2.size)).mono hb0.size)⟩
      | true =>
        have hsl := small_le21 hs
        have HS := hide hs
        subst hg0
        obtain ⟨tn, htn⟩ : ∃ tn, tn = wn + mn := ⟨_, rfl⟩
        have htn9 : tn ≤ 1000000 := by omega
        have htn1 : wn + mn ≤ tn := by omega
        have htn2 : tn ≤ wn + mn := by omega
        have HWR : Hid (IntKind.i64.wrap ((wn : Int) + IntKind.i64.wrap (mn : Int)) = (tn : Int)) := by
          show _ = _
          rw [i64_id (x := (mn : Int)) (by omega) (by omega), i64_id (by omega) (by omega)]; omega
        obtain ⟨Z, hZ⟩ : ∃ Z, Z = List.replicate tn (0 : UInt64) := ⟨_, rfl⟩
        have hZl : Z.length = tn := by rw [hZ, List.length_replicate]
        obtain ⟨E, hE⟩ : ∃ E, readyS regs l rn tn = E := ⟨_, rfl⟩
        obtain ⟨D, hD⟩ : ∃ D, dimsS regs l r.length = D := ⟨_, rfl⟩
        obtain ⟨N, hN⟩ : ∃ N, recN regs l rn tn = N := ⟨_, rfl⟩
        obtain ⟨X, hXX⟩ : ∃ X, uptoS regs l r (-1) = X := ⟨_, rfl⟩
        obtain ⟨R', hR'⟩ : ∃ R', recR regs l r Z = R' := ⟨_, rfl⟩
        obtain ⟨T', hT'⟩ : ∃ T', recT regs l r Z = T' := ⟨_, rfl⟩
        have HQ : Hid ((E = 0 ∧ D = 0 ∧ N = (wn : Int) ∧ X = R' ∧ undS regs l R' T' = r) ∨ (E ≠ 0 ∧ D ≠ 0 ∧ N = 0 ∧ R' = r) ∨ (E = 10 ∧ D = 0 ∧ (rn : Int) < regs ∧ N = 0 ∧ R' = r)) := by
          show _ ∨ _
          have e1 : readyS regs l r.length Z.length = E := by rw [hZl, ← HRN.out]; exact hE
          by_cases hq : E = 0
          · left
            obtain ⟨k1, k2, k3, k4⟩ := back21_ok (t := Z) (e1.trans hq)
            rw [hZl, ← HRN.out, hN, HWN.out] at k2
            exact ⟨hq, hD.symm.trans k1, k2, by rw [← hXX, ← hR', k3], by rw [← hR', ← hT', k4]⟩
          · right
            obtain ⟨k1, k2, k3, k4⟩ := rec_bad (t := Z) (show readyS regs l r.length Z.length ≠ 0 by rw [e1]; exact hq)
            rw [hZl, ← HRN.out, hN] at k3
            rw [hR'] at k1
            rcases back21_no (show readyS regs l r.length tn ≠ 0 by rw [← HRN.out, hE]; exact hq) (by rw [HWN.out]; omega) with q1 | ⟨q1, q2, q3⟩
            · left; exact ⟨hq, by rw [← hD]; exact q1, k3, k1⟩
            · right; exact ⟨by rw [← hE, HRN.out]; exact q3, by rw [← hD]; exact q1, by rw [HRN.out]; exact q2, k3, k1⟩
        have hRl : R'.length = rn := by rw [← hR', recR_length, HRN.out]
        have hTl : T'.length = tn := by rw [← hT', recT_length, hZl]
        have hXl := uptoS_len21 regs l r (-1)
        rw [hXX] at hXl
        have HZ := hide hZ
        have HZL := hide hZl.symm
        have HE := hide hE
        have HD := hide hD
        have HN := hide hN
        have HXX := hide hXX
        have HR' := hide hR'
        have HT' := hide hT'
        have HRL := hide hRl.symm
        have HTL := hide hTl.symm
        clear htn hs hE hD hN hXX hR' hT' hRl hTl hZ hZl
        go_enter Try.func11, Try.ntmps11
        go_wp2_with (first
          | (go_at_call 13; go_must ((with_reducible refine (HW.out).mono ?_); rintro e w1 ⟨rfl, hC1⟩; have hz1 := hC1.size; obtain ⟨q0, q1, q2, q3⟩ := (hX.belowN hC1).c2))
          | (go_at_call 21; go_must ((with_reducible refine (Small13_calls regs a c l _ true HS.out _ (h1.belowN hC1) (by omega)).mono ?_); rintro e w2 ⟨rfl, hb2⟩; have hC2 := hC1.trans (hb2.mono hC1.size); have hsrc := hr1.belowN hC2)))
        have hz2w : w.heap.size + 1 ≤ w2.heap.size := by have := hC2.size; simp at this; omega
        have hOA : Own (w2.alloc (.cells #[] 37)).drew w2.heap.size 37 (some ⟨w2.heap.size, 0, none⟩) 0 ([] : List UInt64) := (Own.new w2 (Nat.le_refl _) 37 UInt64).drew
        have hOB : Own ((w2.alloc (.cells #[] 37)).alloc (.cells (zerosU tn) 37)).drew w2.heap.size 37 (some ⟨w2.heap.size, 0, none⟩) 0 ([] : List UInt64) := ((Own.new w2 (Nat.le_refl _) 37 UInt64).alloc _).drew
        have hOC : Own ((w2.alloc (.cells (zerosU tn) 37)).alloc (.cells #[] 37)).drew w2.heap.size 37 (some ⟨w2.heap.size + 1, 0, none⟩) 0 ([] : List UInt64) := by
          have := (Own.new (B := w2.heap.size) (w2.alloc (.cells (zerosU tn) 37)) (by simp) 37 UInt64).drew
          simp only [World.size_alloc] at this; exact this
        have hNA : Below w2.heap.size w2 (w2.alloc (.cells #[] 37)).drew := Below.drew (below_new12 w2 _)
        have hNB : Below w2.heap.size w2 ((w2.alloc (.cells #[] 37)).alloc (.cells (zerosU tn) 37)).drew := Below.drew (below2 w2 _ _)
        have hNC : Below w2.heap.size w2 ((w2.alloc (.cells (zerosU tn) 37)).alloc (.cells #[] 37)).drew := Below.drew (below2 w2 _ _)
        have hTB : Own ((w2.alloc (.cells #[] 37)).alloc (.cells (zerosU tn) 37)).drew w2.heap.size 37 (some ⟨w2.heap.size + 1, 0, none⟩) tn (List.replicate tn (0 : UInt64)) := by
          have := (ownZ (B := w2.heap.size) (w2.alloc (.cells #[] 37)) (by simp) tn (by omega)).drew
          simp only [World.size_alloc] at this; exact this
        have hTC : Own ((w2.alloc (.cells (zerosU tn) 37)).alloc (.cells #[] 37)).drew w2.heap.size 37 (some ⟨w2.heap.size, 0, none⟩) tn (List.replicate tn (0 : UInt64)) := ((ownZ (B := w2.heap.size) w2 (Nat.le_refl _) tn (by omega)).alloc _).drew
        have hmk := mkU tn (IntKind.i64.wrap ((wn : Int) + IntKind.i64.wrap (mn : Int))) HWR.out (by omega)
        go_region_law (first
          | (refine step_pushAll tyU hOA (l2 := r) (hsrc.belowN hNA) rfl rfl rfl rfl rfl HRN.out (by simp <;> omega) (by omega) (by omega) ?_; intro a3 c3 w3 hown3 hg3 hcs3; have hfA := hg3; have hb3 := below_push hNA hOA hg3 (by simp <;> omega); have hz3 := hb3.size; rw [List.nil_append] at hown3; rw [Nat.zero_add])
          | (refine step_pushAll tyU hOB (l2 := r) (hsrc.belowN hNB) rfl rfl rfl rfl rfl HRN.out (by simp <;> omega) (by omega) (by omega) ?_; intro a3 c3 w3 hown3 hg3 hcs3; have hfB := hg3; have hb3 := below_push hNB hOB hg3 (by simp <;> omega); have hz3 := hb3.size; rw [List.nil_append] at hown3; rw [Nat.zero_add])
          | (refine step_pushAll tyU hOC (l2 := r) (hsrc.belowN hNC) rfl rfl rfl rfl rfl HRN.out (by simp <;> omega) (by omega) (by omega) ?_; intro a3 c3 w3 hown3 hg3 hcs3; have hfC := hg3; have hb3 := below_push hNC hOC hg3 (by simp <;> omega); have hz3 := hb3.size; rw [List.nil_append] at hown3; rw [Nat.zero_add]))
        all_goals
          first
            | (have hgd := hfA
               have hR := (hown3.alloc (.cells (zerosU tn) 37)).mono hz2w
               have hT := (ownZ (B := w2.heap.size) w3 hz3 tn (by omega)).mono hz2w
               have hC4 := hC2.trans ((hb3.trans ((below_new12 w3 (.cells (zerosU tn) 37)).mono hz3)).mono hC2.size)
               have hne3 : ∀ q, a3.map (·.block) = some q → q ≠ w3.heap.size := fun q e => by have := (hown3.blk q e).2; omega
               generalize hW4 : w3.alloc (.cells (zerosU tn) 37) = w4 at *
               generalize w3.heap.size = gt at *
               clear hW4 hfA hg3)
            | (have hgd := hfB
               have hR := hown3.mono hz2w
               have hT := (hTB.grown hg3 (.inr (by simp))).mono hz2w
               have hC4 := hC2.trans (hb3.mono hC2.size)
               have hne3 : ∀ q, a3.map (·.block) = some q → q ≠ w2.heap.size + 1 := fun q e => by
                 rcases hcs3 with h | ⟨g, h, h2⟩
                 · rw [h] at e; simp at e; omega
                 · rw [h] at e; simp at e h2; omega
               generalize w2.heap.size + 1 = gt at *
               obtain ⟨w4, hW4⟩ : ∃ w4, w4 = w3 := ⟨_, rfl⟩
               rw [← hW4] at hR hT hC4 ⊢
               clear hW4 hfB hg3)
            | (have hgd := hfC
               have hR := hown3.mono hz2w
               have hT := (hTC.grown hg3 (.inr (by simp))).mono hz2w
               have hC4 := hC2.trans (hb3.mono hC2.size)
               have hne3 : ∀ q, a3.map (·.block) = some q → q ≠ w2.heap.size := fun q e => by
                 rcases hcs3 with h | ⟨g, h, h2⟩
                 · rw [h] at e; simp at e; omega
                 · rw [h] at e; simp at e h2; omega
               obtain ⟨gt, hgt⟩ : ∃ gt, gt = w2.heap.size := ⟨_, rfl⟩
               rw [← hgt] at hT hne3 ⊢
               obtain ⟨w4, hW4⟩ : ∃ w4, w4 = w3 := ⟨_, rfl⟩
               rw [← hW4] at hR hT hC4 ⊢
               clear hW4 hfC hg3 hgt)
          clear hOA hOB hOC hNA hNB hNC hTB hTC hmk hown3 hb3 hz3 hcs3 hgd
          have hne4 : ∀ q, a3.map (·.block) = some q → (some (⟨gt, 0, none⟩ : Addr)).map (·.block) ≠ some q := fun q e h => hne3 q e (by simp at h; exact h.symm)
          have hz4 := hC4.size
          simp only [World.size_alloc] at hz4
        all_goals
          rw [← HZ.out] at hT
          obtain ⟨u0, u1, u2, u3⟩ := (hX.belowN hC4).c2
          rcases HQ.out with ⟨hE0, hD0, hN0, hX0, hU0⟩ | ⟨hE0, hD0, hN0, hR0⟩ | ⟨hE0, hD0, hlt, hN0, hR0⟩
          · subst hE0 hD0 hN0 hX0
            have HU0 := hide hU0
            clear hU0
            go_wp2_with (first
              | (go_at_call 25; go_must ((with_reducible refine (RecordN regs a c _ l rfl a3 c3 rn r HRN.out (w.heap.size + 1) (some ⟨gt, 0, none⟩) tn tn Z HZL.out (w.heap.size + 1) _ _ _ T' HN.out HE.out HR'.out HT'.out w4 (h1.belowN hC4) (by omega) hR hT (by omega) (by omega) hne4).mono ?_); rintro e w5 ⟨rfl, hR5, hT5, hTu5⟩; have hC5 := hTu5.below hC4 (fun q hq => by rcases List.mem_append.1 hq with hq | hq <;> first | (have h1 := (hR.blk q (blkL_mem.1 hq)).1; simp; omega) | (have h1 := (hT.blk q (blkL_mem.1 hq)).1; simp; omega)) hC4.size; have hz5 := hTu5.size; obtain ⟨p0, p1, p2, p3⟩ := (hX.belowN hC5).c2; have t5 := (hX.belowN hC5).lt))
              | (go_at_call 33; go_must ((with_reducible refine (RunN regs a c _ l ra rc rn r w5 X _ rfl HRN.out HXX.out HD.out (h1.belowN hC5) (by omega) (hr1.belowN hC5) (by omega)).mono ?_); rintro e w6 ⟨a6, c6, rfl, hown6, hb6⟩; have hC6 := hC5.trans (hb6.mono hC5.size); have hR6 := hR5.belowN hb6; have hT6 := hT5.belowN hb6; obtain ⟨o0, o1, o2, o3⟩ := (hX.belowN hC6).c2))
              | (go_at_call 17; first
                  | (have hgd := hU8; go_must ((with_reducible refine (Same5N _ _ rn rn _ _ r _ HRN.out HRN.out hU8.at_ (hr1.belowN hC8) (by omega)).mono ?_); rintro e w10 ⟨rfl, q10, hw10⟩; have hC10 : Below _ _ w10 := (by rw [hw10]; exact below_drewN hC8 _); clear hw10))
                  | go_must ((with_reducible refine (Same5N _ _ rn _ _ _ X _ HRL.out rfl hR6.at_ hown6.at_ (by omega)).mono ?_); rintro e w7 ⟨rfl, q7, hw7⟩; have hC7 : Below _ _ w7 := (by rw [hw7]; exact below_drewN hC6 _); have hR7 : Own w7 _ _ _ _ X := (by rw [hw7]; exact hR6.drewN _); have hT7 : Own w7 _ _ _ _ T' := (by rw [hw7]; exact hT6.drewN _); clear hw7; obtain ⟨s0, s1, s2, s3⟩ := (hX.belowN hC7).c2))
              | (go_at_call 29; go_must ((with_reducible refine (UndoN regs a c _ l rfl a3 c3 rn X HRL.out (w.heap.size + 1) (some ⟨gt, 0, none⟩) tn tn T' HTL.out 0 r HE.out HU0.out w7 (h1.belowN hC7) (by omega) hR7 hT7.at_ (by omega) (by omega) (fun q hq => (hT7.blk q hq).2)).mono ?_); rintro e w8 ⟨rfl, hU8, hTu8⟩; have hC8 := hTu8.below hC7 (fun q hq => by have h1 := (hR7.blk q (blkL_mem.1 hq)).1; simp; omega) hC7.size))
              | (go_at_call 18; go_must ((with_reducible refine (goes21_calls _).mono ?_); rintro e w9 ⟨rfl, hb9⟩)))
            go_ret
            exact ⟨rfl, hb0.trans ((hC10.trans (hb9.mono hC10.size)).mono hb0.size)⟩
          · subst hN0
            rw [hR0] at HR' HRL
            clear hR0
            have e1 : (E == 0) = false := by simpa using hE0
            have e2 : (E != 0) = true := by simpa using hE0
            have e3 : (D == 0) = false := by simpa using hD0
            have e4 : (D != 0) = true := by simpa using hD0
            clear hE0 hD0
            go_wp2_with (first
              | (go_at_call 25; go_must ((with_reducible refine (RecordN regs a c _ l rfl a3 c3 rn r HRN.out (w.heap.size + 1) (some ⟨gt, 0, none⟩) tn tn Z HZL.out (w.heap.size + 1) _ _ _ T' HN.out HE.out HR'.out HT'.out w4 (h1.belowN hC4) (by omega) hR hT (by omega) (by omega) hne4).mono ?_); rintro e w5 ⟨rfl, hR5, hT5, hTu5⟩; have hC5 := hTu5.below hC4 (fun q hq => by rcases List.mem_append.1 hq with hq | hq <;> first | (have h1 := (hR.blk q (blkL_mem.1 hq)).1; simp; omega) | (have h1 := (hT.blk q (blkL_mem.1 hq)).1; simp; omega)) hC4.size; have hz5 := hTu5.size; obtain ⟨p0, p1, p2, p3⟩ := (hX.belowN hC5).c2; have t5 := (hX.belowN hC5).lt))
              | (go_at_call 33; go_must ((with_reducible refine (RunN regs a c _ l ra rc rn r w5 X _ rfl HRN.out HXX.out HD.out (h1.belowN hC5) (by omega) (hr1.belowN hC5) (by omega)).mono ?_); rintro e w6 ⟨a6, c6, rfl, hown6, hb6⟩; have hC6 := hC5.trans (hb6.mono hC5.size); have hR6 := hR5.belowN hb6; have hT6 := hT5.belowN hb6; obtain ⟨o0, o1, o2, o3⟩ := (hX.belowN hC6).c2))
              | (go_at_call 17; go_must ((with_reducible refine (Same5N _ _ rn rn _ _ r _ HRN.out HRN.out hR6.at_ (hr1.belowN hC6) (by omega)).mono ?_); rintro e w7 ⟨rfl, q7, hw7⟩; have hC7 : Below _ _ w7 := (by rw [hw7]; exact below_drewN hC6 _); have hX7 : Blk w7 _ _ _ := (by rw [hw7]; exact (hX.belowN hC6).drewN _); clear hw7; obtain ⟨s0, s1, s2, s3⟩ := hX7.c2))
              | (go_at_call 18; go_must ((with_reducible refine (goes21_calls _).mono ?_); rintro e w9 ⟨rfl, hb9⟩)))
            go_ret
            exact ⟨rfl, hb0.trans ((hC7.trans (hb9.mono hC7.size)).mono hb0.size)⟩
          · subst hE0 hD0 hN0
            rw [hR0] at HR' HRL
            clear hR0
            go_wp2_with (first
              | (go_at_call 25; go_must ((with_reducible refine (RecordN regs a c _ l rfl a3 c3 rn r HRN.out (w.heap.size + 1) (some ⟨gt, 0, none⟩) tn tn Z HZL.out (w.heap.size + 1) _ _ _ T' HN.out HE.out HR'.out HT'.out w4 (h1.belowN hC4) (by omega) hR hT (by omega) (by omega) hne4).mono ?_); rintro e w5 ⟨rfl, hR5, hT5, hTu5⟩; have hC5 := hTu5.below hC4 (fun q hq => by rcases List.mem_append.1 hq with hq | hq <;> first | (have h1 := (hR.blk q (blkL_mem.1 hq)).1; simp; omega) | (have h1 := (hT.blk q (blkL_mem.1 hq)).1; simp; omega)) hC4.size; have hz5 := hTu5.size; obtain ⟨p0, p1, p2, p3⟩ := (hX.belowN hC5).c2; have t5 := (hX.belowN hC5).lt))
              | (go_at_call 33; go_must ((with_reducible refine (RunN regs a c _ l ra rc rn r w5 X _ rfl HRN.out HXX.out HD.out (h1.belowN hC5) (by omega) (hr1.belowN hC5) (by omega)).mono ?_); rintro e w6 ⟨a6, c6, rfl, hown6, hb6⟩; have hC6 := hC5.trans (hb6.mono hC5.size); have hR6 := hR5.belowN hb6; have hT6 := hT5.belowN hb6; obtain ⟨o0, o1, o2, o3⟩ := (hX.belowN hC6).c2))
              | (go_at_call 17; go_must ((with_reducible refine (Same5N _ _ rn rn _ _ r _ HRN.out HRN.out hR6.at_ (hr1.belowN hC6) (by omega)).mono ?_); rintro e w7 ⟨rfl, q7, hw7⟩; have hC7 : Below _ _ w7 := (by rw [hw7]; exact below_drewN hC6 _); have hX7 : Blk w7 _ _ _ := (by rw [hw7]; exact (hX.belowN hC6).drewN _); clear hw7; obtain ⟨s0, s1, s2, s3⟩ := hX7.c2))
              | (go_at_call 18; go_must ((with_reducible refine (goes21_calls _).mono ?_); rintro e w9 ⟨rfl, hb9⟩)))
            go_ret
            exact ⟨rfl, hb0.trans ((hC7.trans (hb9.mono hC7.size)).mono hb0.size)⟩
    · go_enter Try.func11, Try.ntmps11
      go_wp2_with (first
        | (go_at_call 13; go_must ((with_reducible refine (HW.out).mono ?_); rintro e w1 ⟨rfl, hC1⟩; have hz1 := hC1.size; obtain ⟨q0, q1, q2, q3⟩ := (hX.belowN hC1).c2))
        | (go_at_call 18; go_must ((with_reducible refine (goes21_calls _).mono ?_); rintro e w8 ⟨rfl, hb8⟩)))
      go_ret
      exact ⟨rfl, hb0.trans ((hC1.trans (hb8.mono hC1.size)).mono hb0.size)⟩
  · have e1 : (S == 0) = false := by simpa using hg0
    have e2 : (S != 0) = true := by simpa using hg0
    clear hg0
    go_enter Try.func11, Try.ntmps11
    go_wp2_with (first
      | (go_at_call 13; go_must ((with_reducible refine (HW.out).mono ?_); rintro e w1 ⟨rfl, hC1⟩; have hz1 := hC1.size; obtain ⟨q0, q1, q2, q3⟩ := (hX.belowN hC1).c2))
      | (go_at_call 18; go_must ((with_reducible refine (goes21_calls _).mono ?_); rintro e w8 ⟨rfl, hb8⟩)))
    go_ret
    exact ⟨rfl, hb0.trans ((hC1.trans (hb8.mono hC1.size)).mono hb0.size)⟩
end Go.Proofs.Ytjfpnbnkfcgjcaa
