/- Chapter 21: TapeRecords. -/
import Derived.Test.YtjfpnbnkfcgjcaaCl
import Derived.Test.YtjfpnbnkfcgjcaaG21
namespace Go.Proofs.Ytjfpnbnkfcgjcaa
set_option linter.unusedVariables false
set_option linter.unusedSimpArgs false
open Go.RowKit
theorem small_le21 {regs : Int} {l : List OpD} {m : Int} (h : small13 regs l m = true) : (l.length : Int) ≤ m := by
  unfold small13 at h
  simp only [Bool.and_eq_true, decide_eq_true_eq] at h
  exact h.1
set_option maxRecDepth 100000 in
set_option maxHeartbeats 3200000 in
theorem TapeRecords_calls (regs : Int) (a : Option Addr) (c : Nat) (l : List OpD) (ra : Option Addr) (rc : Nat) (r : List UInt64) (ta : Option Addr) (tc : Nat) (t : List UInt64) (w : World) (h : At w a l) (hr : At w ra r) (ht : At w ta t) :
    Calls Try.prog 9 #[.agg #[.int .i64 regs, .slice a l.length c], .slice ra r.length rc, .slice ta t.length tc] w fun e w' => e = .returned (.bool true) ∧ Below w.heap.size w w' := by
  have hb0 := below_new12 w (.cells #[.int .i64 regs, .slice a l.length c] 24)
  have hX := Blk.new w 24 #[.int .i64 regs, .slice a l.length c]
  have h1 := h.belowN hb0
  have hr1 := hr.belowN hb0
  have ht1 := ht.belowN hb0
  have hX0 := hX
  obtain ⟨i0, i1, i2, i3⟩ := hX0.c2
  by_cases hg1 : r.length ≤ 100
  · by_cases hg2 : t.length ≤ 4000
    · cases hs : small13 regs l 100 with
      | false =>
        have HS := hide hs
        clear hs
        go_enter Try.func9, Try.ntmps9
        go_wp2_with (first
          | (go_at_call 21; (with_reducible refine (Small13_calls regs a c l _ false HS.out _ h1 (by omega)).mono ?_); rintro e w1 ⟨rfl, hb1⟩; have hB1 := hb0.trans (hb1.mono hb0.size); have hz1 := hB1.size)
          | (go_at_call 18; (with_reducible refine (goes21_calls _).mono ?_); rintro e w8 ⟨rfl, hbel8⟩))
        go_ret
        exact ⟨rfl, hB1.trans (hbel8.mono hz1)⟩
      | true =>
        have hsl := small_le21 hs
        have HS := hide hs
        obtain ⟨N, hN⟩ : ∃ N, recN regs l r.length t.length = N := ⟨_, rfl⟩
        obtain ⟨E, hE⟩ : ∃ E, readyS regs l r.length t.length = E := ⟨_, rfl⟩
        obtain ⟨R', hR⟩ : ∃ R', recR regs l r t = R' := ⟨_, rfl⟩
        obtain ⟨T', hT⟩ : ∃ T', recT regs l r t = T' := ⟨_, rfl⟩
        obtain ⟨U', hU⟩ : ∃ U', undS regs l r t = U' := ⟨_, rfl⟩
        have hRl : R'.length = r.length := by rw [← hR, recR_length]
        have hTl : T'.length = t.length := by rw [← hT, recT_length]
        have hUl : U'.length = r.length := by rw [← hU, undS_length]
        obtain ⟨rn, hrn⟩ : ∃ rn, rn = r.length := ⟨_, rfl⟩
        obtain ⟨tn, htn⟩ : ∃ tn, tn = t.length := ⟨_, rfl⟩
        rw [← hrn] at hN hE hRl hUl hg1 ⊢
        rw [← htn] at hN hE hTl hg2 ⊢
        have HRN := hide hrn
        have HTN := hide htn
        have HN := hide hN
        have HE := hide hE
        have HR := hide hR
        have HT := hide hT
        have HU := hide hU
        have HRL := hide hRl.symm
        have HTL := hide hTl.symm
        have HUL := hide hUl.symm
        clear hs hN hE hR hT hU hRl hTl hUl hrn htn
        go_enter Try.func9, Try.ntmps9
        go_wp2_with (first
          | (go_at_call 21; (with_reducible refine (Small13_calls regs a c l _ true HS.out _ h1 (by omega)).mono ?_); rintro e w1 ⟨rfl, hC1⟩; have hz1 := hC1.size)
          | (at_builtin; first
              | (have hgd := w8; go_must (refine wpList_ownAll tyU (ht1.belowN hC8) rfl rfl rfl rfl HTN.out (by omega) ?_; intro a9 c9 w9 hown9 hb9; have hC9 := hC8.trans (hb9.mono hC8.size); have hown89 := hown8.belowN hb9; obtain ⟨q0, q1, q2, q3⟩ := (hX.belowN hC9).c2))
              | (have hgd := q7; go_must (refine wpList_ownAll tyU (hr1.belowN hC7) rfl rfl rfl rfl HRN.out (by omega) ?_; intro a8 c8 w8 hown8 hb8; have hC8 := hC7.trans (hb8.mono hC7.size)))
              | (have hgd := w2; go_must (refine wpList_ownAll tyU (ht1.belowN hC2) rfl rfl rfl rfl HTN.out (by omega) ?_; intro a3 c3 w3 hown3 hb3; have hC3 := hC2.trans (hb3.mono hC2.size); have hown23 := hown2.belowN hb3; obtain ⟨q0, q1, q2, q3⟩ := (hX.belowN hC3).c2))
              | go_must (refine wpList_ownAll tyU (hr1.belowN hC1) rfl rfl rfl rfl HRN.out (by omega) ?_; intro a2 c2 w2 hown2 hb2; have hC2 := hC1.trans (hb2.mono hC1.size)))
          | (go_at_call 25; go_must ((with_reducible refine (RecordN regs a c _ l rfl a2 c2 rn r HRN.out w1.heap.size a3 c3 tn t HTN.out w2.heap.size N E R' T' HN.out HE.out HR.out HT.out w3 (h1.belowN hC3) (by omega) hown23 hown3 (by omega) (by omega) (fun q e1 e2 => by have h1 := (hown2.blk q e1).2; have h2 := (hown3.blk q e2).1; omega)).mono ?_); rintro e w4 ⟨rfl, hR4, hT4, hTu4⟩; have hC4 := hTu4.below hC3 (fun q hq => (List.mem_append.1 hq).elim (fun hq => by have h1 := (hown2.blk q (blkL_mem.1 hq)).1; omega) (fun hq => by have h1 := (hown3.blk q (blkL_mem.1 hq)).1; have h2 := hC2.size; omega)) hC3.size; obtain ⟨q0, q1, q2, q3⟩ := (hX.belowN hC4).c2))
          | (go_at_call 28; go_must ((with_reducible refine (Record21N regs a c _ l rfl ra rc rn r HRN.out ta tc tn t HTN.out N E R' T' HN.out HE.out HR.out HT.out w4 (h1.belowN hC4) (by omega) (hr1.belowN hC4) (ht1.belowN hC4) (by omega) (by omega)).mono ?_); rintro e w5 ⟨a5, c5, a6, c6, rfl, hR5, hT5, hb5⟩; have hC5 := hC4.trans (hb5.mono hC4.size); have hR45 := (hR4.belowN hb5).at_; have hT45 := (hT4.belowN hb5).at_; have hR55 := hR5.at_; have hT55 := hT5.at_))
          | (go_at_call 17; first
              | (have hgd := hU12; go_must ((with_reducible refine (Same5N _ _ tn tn _ _ t _ HTN.out HTN.out ht12 ht13 (by omega)).mono ?_); rintro e w13 ⟨rfl, q13, hw13⟩; have hC13 : Below _ _ w13 := (by rw [hw13]; exact below_drewN hC12 _); clear hw13))
              | (have hgd := hU10; go_must ((with_reducible refine (Same5N _ _ rn rn _ _ U' _ HUL.out HUL.out hU10.at_ hU11.at_ (by omega)).mono ?_); rintro e w12 ⟨rfl, q12, hw12⟩; have hU12 := hU10; have hC12 : Below _ _ w12 := (by rw [hw12]; exact below_drewN hC11 _); have ht12 : At w12 a9 t := (by rw [hw12]; exact ht11.drewN _); have ht13 : At w12 ta t := ht1.belowN hC12; clear hw12))
              | (have hgd := q6; go_must ((with_reducible refine (Same5N _ _ tn tn _ _ T' _ HTL.out HTL.out hT46 hT56 (by omega)).mono ?_); rintro e w7 ⟨rfl, q7, hw7⟩; have hC7 : Below _ _ w7 := (by rw [hw7]; exact below_drewN hC6 _); clear hw7))
              | go_must ((with_reducible refine (Same5N _ _ rn rn _ _ R' _ HRL.out HRL.out hR45 hR55 (by omega)).mono ?_); rintro e w6 ⟨rfl, q6, hw6⟩; have hC6 : Below _ _ w6 := (by rw [hw6]; exact below_drewN hC5 _); have hT46 : At w6 a3 T' := (by rw [hw6]; exact hT45.drewN _); have hT56 : At w6 a6 T' := (by rw [hw6]; exact hT55.drewN _); clear hw6))
          | (go_at_call 29; go_must ((with_reducible refine (UndoN regs a c _ l rfl a8 c8 rn r HRN.out w7.heap.size a9 c9 tn t HTN.out E U' HE.out HU.out w9 (h1.belowN hC9) (by omega) hown89 hown9.at_ (by omega) (by omega) (fun q hq => (hown9.blk q hq).2)).mono ?_); rintro e w10 ⟨rfl, hU10', hTu10⟩; have hC10 := hTu10.below hC9 (fun q hq => by have h1 := (hown8.blk q (blkL_mem.1 hq)).1; have h2 := hC7.size; omega) hC9.size; have ht10 := (hown9.turned hTu10 (fun q e1 hq => by have h1 := (hown8.blk q (blkL_mem.1 hq)).2; have h2 := (hown9.blk q e1).1; omega)).at_; obtain ⟨q0, q1, q2, q3⟩ := (hX.belowN hC10).c2))
          | (go_at_call 30; go_must ((with_reducible refine (Undo21N regs a c _ l rfl ra rc rn r HRN.out ta tc tn t HTN.out E U' HE.out HU.out w10 (h1.belowN hC10) (by omega) (hr1.belowN hC10) (ht1.belowN hC10) (by omega) (by omega)).mono ?_); rintro e w11 ⟨a11, c11, rfl, hU11, hb11⟩; have hC11 := hC10.trans (hb11.mono hC10.size); have hU10 := hU10'.belowN hb11; have ht11 := ht10.belowN hb11))
          | (go_at_call 18; go_must ((with_reducible refine (goes21_calls _).mono ?_); rintro e w14 ⟨rfl, hb14⟩; have hC14 := hC13.trans (hb14.mono hC13.size))))
        go_ret
        exact ⟨rfl, hb0.trans (hC14.mono hb0.size)⟩
    · go_enter Try.func9, Try.ntmps9
      go_wp2_with (go_at_call 18; (with_reducible refine (goes21_calls _).mono ?_); rintro e w8 ⟨rfl, hbel8⟩)
      go_ret
      exact ⟨rfl, hb0.trans (hbel8.mono hb0.size)⟩
  · go_enter Try.func9, Try.ntmps9
    go_wp2_with (go_at_call 18; (with_reducible refine (goes21_calls _).mono ?_); rintro e w8 ⟨rfl, hbel8⟩)
    go_ret
    exact ⟨rfl, hb0.trans (hbel8.mono hb0.size)⟩
end Go.Proofs.Ytjfpnbnkfcgjcaa
