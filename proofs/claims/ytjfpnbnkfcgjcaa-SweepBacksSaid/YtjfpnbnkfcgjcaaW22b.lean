/- Chapter 22: SweepBacks. -/
import Derived.Test.YtjfpnbnkfcgjcaaG22
import Derived.Test.YtjfpnbnkfcgjcaaR22a
import Derived.Test.YtjfpnbnkfcgjcaaW21a
namespace Go.Proofs.Ytjfpnbnkfcgjcaa
set_option linter.unusedVariables false
set_option linter.unusedSimpArgs false
open Go.RowKit
set_option maxRecDepth 100000 in
set_option maxHeartbeats 3200000 in
theorem SweepBacks_calls (regs : Int) (a : Option Addr) (c : Nat) (l : List OpD) (ra : Option Addr) (rc : Nat) (r : List UInt64) (aa : Option Addr) (ac : Nat) (v : List UInt64) (ta : Option Addr) (tc : Nat) (t : List UInt64) (w : World) (h : At w a l) (hr : At w ra r) (hv : At w aa v) (ht : At w ta t) :
    Calls Try.prog 5 #[.agg #[.int .i64 regs, .slice a l.length c], .slice ra r.length rc, .slice aa v.length ac, .slice ta t.length tc] w fun e w' => e = .returned (.bool true) ∧ Below w.heap.size w w' := by
  have hb0 := below_new12 w (.cells #[.int .i64 regs, .slice a l.length c] 24)
  have hX := Blk.new w 24 #[.int .i64 regs, .slice a l.length c]
  have h1 := h.belowN hb0
  have hr1 := hr.belowN hb0
  have hv1 := hv.belowN hb0
  have ht1 := ht.belowN hb0
  have hX0 := hX
  obtain ⟨i0, i1, i2, i3⟩ := hX0.c2
  by_cases hg1 : r.length ≤ 100
  · by_cases hg2 : v.length ≤ 100
    · by_cases hg3 : t.length ≤ 4000
      · cases hs : small13 regs l 100 with
        | false =>
          have HS := hide hs
          clear hs
          go_enter Try.func5, Try.ntmps5
          go_wp2_with (first
            | (go_at_call 21; (with_reducible refine (Small13_calls regs a c l _ false HS.out _ h1 (by omega)).mono ?_); rintro e w1 ⟨rfl, hb1⟩; have hB1 := hb0.trans (hb1.mono hb0.size); have hz1 := hB1.size)
            | (go_at_call 14; (with_reducible refine (goes22_calls _).mono ?_); rintro e w8 ⟨rfl, hbel8⟩))
          go_ret
          exact ⟨rfl, hB1.trans (hbel8.mono hz1)⟩
        | true =>
          have hsl := small_le21 hs
          have HS := hide hs
          obtain ⟨X, hX1⟩ : ∃ X, backX regs l r v t = X := ⟨_, rfl⟩
          obtain ⟨Y, hY1⟩ : ∃ Y, backY regs l r v t = Y := ⟨_, rfl⟩
          obtain ⟨E, hE⟩ : ∃ E, backE regs l r.length v.length t.length = E := ⟨_, rfl⟩
          have hXl : X.length = r.length := by rw [← hX1]; exact backX_length regs l r v t
          have hYl : Y.length = v.length := by rw [← hY1]; exact backY_length regs l r v t
          obtain ⟨rn, hrn⟩ : ∃ rn, rn = r.length := ⟨_, rfl⟩
          obtain ⟨vn, hvn⟩ : ∃ vn, vn = v.length := ⟨_, rfl⟩
          obtain ⟨tn, htn⟩ : ∃ tn, tn = t.length := ⟨_, rfl⟩
          rw [← hrn] at hE hg1 hXl ⊢
          rw [← hvn] at hE hg2 hYl ⊢
          rw [← htn] at hE hg3 ⊢
          have HRN := hide hrn
          have HVN := hide hvn
          have HTN := hide htn
          have HX1 := hide hX1
          have HY1 := hide hY1
          have HE := hide hE
          have HXL := hide hXl.symm
          have HYL := hide hYl.symm
          clear hs hX1 hY1 hE hXl hYl hrn hvn htn
          go_enter Try.func5, Try.ntmps5
          go_wp2_with (first
            | (go_at_call 21; (with_reducible refine (Small13_calls regs a c l _ true HS.out _ h1 (by omega)).mono ?_); rintro e w1 ⟨rfl, hC1⟩; have hz1 := hC1.size)
            | (at_builtin; first
                | (have hgd := w3; go_must (refine wpList_ownAll tyU (ht1.belowN hC3) rfl rfl rfl rfl HTN.out (by omega) ?_; intro a4 c4 w4 hown4 hb4; have hC4 := hC3.trans (hb4.mono hC3.size); have hownR := (hown2.belowN hb3).belowN hb4; have hownV := hown3.belowN hb4; have hatT := hown4.at_; obtain ⟨q0, q1, q2, q3⟩ := (hX.belowN hC4).c2))
                | (have hgd := w2; go_must (refine wpList_ownAll tyU (hv1.belowN hC2) rfl rfl rfl rfl HVN.out (by omega) ?_; intro a3 c3 w3 hown3 hb3; have hC3 := hC2.trans (hb3.mono hC2.size)))
                | go_must (refine wpList_ownAll tyU (hr1.belowN hC1) rfl rfl rfl rfl HRN.out (by omega) ?_; intro a2 c2 w2 hown2 hb2; have hC2 := hC1.trans (hb2.mono hC1.size)))
            | (go_at_call 22; go_must ((with_reducible refine (Back_calls regs a c _ l rfl a2 rn c2 a3 vn c3 a4 tn c4 w1.heap.size w2.heap.size r v t X Y E HRN.out HVN.out HTN.out HE.out HX1.out HY1.out w4 (h1.belowN hC4) (by omega) hownR hownV hatT (by omega) (by omega) (by omega) (fun q e1 e2 => by have h1 := (hown2.blk q e1).2; have h2 := (hown3.blk q e2).1; omega) (fun q e1 => ⟨fun e2 => by have h1 := (hown4.blk q e1).1; have h2 := (hown2.blk q e2).2; have := hb3.size; omega, fun e2 => by have h1 := (hown4.blk q e1).1; have h2 := (hown3.blk q e2).2; omega⟩)).mono ?_); rintro e w5 ⟨rfl, hR5, hV5, hTu5⟩; have hC5 := hTu5.below hC4 (fun q hq => by rcases List.mem_append.1 hq with hq | hq <;> first | (have h1 := (hownR.blk q (blkL_mem.1 hq)).1; have := hC1.size; omega) | (have h1 := (hownV.blk q (blkL_mem.1 hq)).1; have := hC2.size; omega)) hC4.size; have hT5 := hown4.turned hTu5 (fun q e1 hq => by have h1 := (hown4.blk q e1).1; rcases List.mem_append.1 hq with hq | hq <;> first | (have h2 := (hown2.blk q (blkL_mem.1 hq)).2; have := hb3.size; omega) | (have h2 := (hown3.blk q (blkL_mem.1 hq)).2; omega)); obtain ⟨q0, q1, q2, q3⟩ := (hX.belowN hC5).c2))
            | (go_at_call 23; go_must ((with_reducible refine (RBack_calls regs a c _ l rfl ra rn rc aa vn ac ta tn tc r v t X Y E HRN.out HVN.out HTN.out HE.out HX1.out HY1.out w5 (h1.belowN hC5) (by omega) (hr1.belowN hC5) (hv1.belowN hC5) (ht1.belowN hC5) (by omega) (by omega) (by omega)).mono ?_); rintro e w6 ⟨a6, c6, a7, c7, rfl, hR6, hV6, hb6⟩; have hC6 := hC5.trans (hb6.mono hC5.size); have hR56 := (hR5.belowN hb6).at_; have hV56 := (hV5.belowN hb6).at_; have hT56 := (hT5.belowN hb6).at_; have hR66 := hR6.at_; have hV66 := hV6.at_))
            | (go_at_call 17; first
                | (have hgd := q8; go_must ((with_reducible refine (Same5N _ _ tn tn _ _ t _ HTN.out HTN.out hT58 (ht1.belowN hC8) (by omega)).mono ?_); rintro e w9 ⟨rfl, q9, hw9⟩; have hC9 : Below _ _ w9 := (by rw [hw9]; exact below_drewN hC8 _); clear hw9))
                | (have hgd := q7; go_must ((with_reducible refine (Same5N _ _ vn vn _ _ Y _ HYL.out HYL.out hV57 hV67 (by omega)).mono ?_); rintro e w8 ⟨rfl, q8, hw8⟩; have hC8 : Below _ _ w8 := (by rw [hw8]; exact below_drewN hC7 _); have hT58 : At w8 a4 t := (by rw [hw8]; exact hT57.drewN _); clear hw8))
                | go_must ((with_reducible refine (Same5N _ _ rn rn _ _ X _ HXL.out HXL.out hR56 hR66 (by omega)).mono ?_); rintro e w7 ⟨rfl, q7, hw7⟩; have hC7 : Below _ _ w7 := (by rw [hw7]; exact below_drewN hC6 _); have hV57 : At w7 a3 Y := (by rw [hw7]; exact hV56.drewN _); have hV67 : At w7 a7 Y := (by rw [hw7]; exact hV66.drewN _); have hT57 : At w7 a4 t := (by rw [hw7]; exact hT56.drewN _); clear hw7))
            | (go_at_call 14; go_must ((with_reducible refine (goes22_calls _).mono ?_); rintro e w14 ⟨rfl, hb14⟩; have hC14 := hC9.trans (hb14.mono hC9.size))))
          go_ret
          exact ⟨rfl, hb0.trans (hC14.mono hb0.size)⟩
      · go_enter Try.func5, Try.ntmps5
        go_wp2_with (go_at_call 14; (with_reducible refine (goes22_calls _).mono ?_); rintro e w8 ⟨rfl, hbel8⟩)
        go_ret
        exact ⟨rfl, hb0.trans (hbel8.mono hb0.size)⟩
    · go_enter Try.func5, Try.ntmps5
      go_wp2_with (go_at_call 14; (with_reducible refine (goes22_calls _).mono ?_); rintro e w8 ⟨rfl, hbel8⟩)
      go_ret
      exact ⟨rfl, hb0.trans (hbel8.mono hb0.size)⟩
  · go_enter Try.func5, Try.ntmps5
    go_wp2_with (go_at_call 14; (with_reducible refine (goes22_calls _).mono ?_); rintro e w8 ⟨rfl, hbel8⟩)
    go_ret
    exact ⟨rfl, hb0.trans (hbel8.mono hb0.size)⟩
end Go.Proofs.Ytjfpnbnkfcgjcaa
