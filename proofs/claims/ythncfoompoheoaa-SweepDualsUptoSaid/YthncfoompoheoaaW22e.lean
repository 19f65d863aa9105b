/- Chapter 22: SweepDuals. -/
import Derived.Test.YthncfoompoheoaaDd
import Derived.Test.YthncfoompoheoaaG22
import Derived.Test.YthncfoompoheoaaW21b
namespace Go.Proofs.Ythncfoompoheoaa
set_option linter.unusedVariables false
set_option linter.unusedSimpArgs false
open Go.RowKit
set_option maxRecDepth 100000 in
set_option maxHeartbeats 6400000 in
theorem SweepDuals_calls (regs : Int) (a : Option Addr) (c : Nat) (l : List OpD) (ra : Option Addr) (rc : Nat) (r : List UInt64) (wa : Option Addr) (wc : Nat) (x : List UInt64) (w : World) (h : At w a l) (hr : At w ra r) (hw : At w wa x) (hl : l.length ≤ 1000000) :
    Calls Try.prog 4 #[.agg #[.int .i64 regs, .slice a l.length c], .slice ra r.length rc, .slice wa x.length wc] w fun e w' => e = .returned (.bool true) ∧ Below w.heap.size w w' := by
  have hb0 := below_new12 w (.cells #[.int .i64 regs, .slice a l.length c] 24)
  have hX := Blk.new w 24 #[.int .i64 regs, .slice a l.length c]
  have h1 := h.belowN hb0
  have hr1 := hr.belowN hb0
  have hw1 := hw.belowN hb0
  have HW := hide (SizeW_calls a c l _ h1 hl)
  have hwb : 0 ≤ sizeW l ∧ sizeW l ≤ 65536 := sizeW_bd21 l
  obtain ⟨tn, htn⟩ : ∃ tn : Nat, sizeW l = tn := ⟨(sizeW l).toNat, by omega⟩
  obtain ⟨S, hS⟩ : ∃ S, sizeE l = S := ⟨_, rfl⟩
  rw [htn, hS] at HW
  obtain ⟨rn, hrn⟩ : ∃ rn, rn = r.length := ⟨_, rfl⟩
  obtain ⟨wn, hwn⟩ : ∃ wn, wn = x.length := ⟨_, rfl⟩
  obtain ⟨PA, hPA⟩ : ∃ PA, pullA regs l r x = PA := ⟨_, rfl⟩
  obtain ⟨E, hE⟩ : ∃ E, pullE regs l rn wn = E := ⟨_, rfl⟩
  have hpl := pullA_len regs l r x
  rw [hPA] at hpl
  rw [← hrn, ← hwn]
  have HRN := hide hrn
  have HWN := hide hwn
  have HPA := hide hPA
  have HE := hide hE
  clear htn hS hrn hwn h hr hw hPA hE hwb
  by_cases g1 : rn ≤ 100
  · by_cases g2 : wn ≤ 100
    · by_cases g3 : l.length ≤ 60
      · by_cases g4 : S = 0
        · subst g4
          by_cases g5 : tn ≤ 400
          · by_cases g6 : regs ≤ 12
            · 
              go_enter Try.func4, Try.ntmps4
              go_wp2_with (first
                | (go_at_call 15; go_must ((with_reducible refine (HW.out).mono ?_); rintro e w1 ⟨rfl, hC1⟩; have hz1 := hC1.size; obtain ⟨q0, q1, q2, q3⟩ := (hX.belowN hC1).c2))
                | (go_at_call 25; go_must ((with_reducible refine (Pull_calls regs a c _ l rfl ra rn rc r HRN.out wa wn wc x HWN.out PA E HPA.out HE.out w1 (h1.belowN hC1) (by omega) (hr1.belowN hC1) (hw1.belowN hC1) (by omega) (by omega)).mono ?_); rintro e w2 ⟨a2, c2, rfl, hA2, hb2⟩; have hC2 := hC1.trans (hb2.mono hC1.size); obtain ⟨q0, q1, q2, q3⟩ := (hX.belowN hC2).c2))
                | (go_at_call 26; go_must ((with_reducible refine (Pull14_calls regs a c _ l rfl ra rn rc r HRN.out wa wn wc x HWN.out PA E HPA.out HE.out w2 (h1.belowN hC2) (by omega) (hr1.belowN hC2) (hw1.belowN hC2) (by omega) (by omega)).mono ?_); rintro e w3 ⟨a3, c3, rfl, hA3, hb3⟩; have hC3 := hC2.trans (hb3.mono hC2.size)))
                | (go_at_call 27; go_must ((with_reducible refine (Same5N _ _ _ _ _ _ PA _ rfl rfl (hA2.belowN hb3).at_ hA3.at_ (by omega)).mono ?_); rintro e w4 ⟨rfl, q4, hw4⟩; have hC4 : Below _ _ w4 := (by rw [hw4]; exact below_drewN hC3 _); clear hw4))
                | (go_at_call 24; go_must ((with_reducible refine (goes22_calls _).mono ?_); rintro e w8 ⟨rfl, hb8⟩)))
              go_ret
              exact ⟨rfl, hb0.trans ((hC4.trans (hb8.mono hC4.size)).mono hb0.size)⟩
            · 
              go_enter Try.func4, Try.ntmps4
              go_wp2_with (first
                | (go_at_call 15; go_must ((with_reducible refine (HW.out).mono ?_); rintro e w1 ⟨rfl, hC1⟩; have hz1 := hC1.size; obtain ⟨q0, q1, q2, q3⟩ := (hX.belowN hC1).c2))
                | (go_at_call 24; go_must ((with_reducible refine (goes22_calls _).mono ?_); rintro e w8 ⟨rfl, hb8⟩)))
              go_ret
              exact ⟨rfl, hb0.trans ((hC1.trans (hb8.mono hC1.size)).mono hb0.size)⟩
          · 
              go_enter Try.func4, Try.ntmps4
              go_wp2_with (first
                | (go_at_call 15; go_must ((with_reducible refine (HW.out).mono ?_); rintro e w1 ⟨rfl, hC1⟩; have hz1 := hC1.size; obtain ⟨q0, q1, q2, q3⟩ := (hX.belowN hC1).c2))
                | (go_at_call 24; go_must ((with_reducible refine (goes22_calls _).mono ?_); rintro e w8 ⟨rfl, hb8⟩)))
              go_ret
              exact ⟨rfl, hb0.trans ((hC1.trans (hb8.mono hC1.size)).mono hb0.size)⟩
        · have d1 : (S == 0) = false := by simpa using g4
          clear g4
          by_cases g6 : regs ≤ 12
          · 
              go_enter Try.func4, Try.ntmps4
              go_wp2_with (first
                | (go_at_call 15; go_must ((with_reducible refine (HW.out).mono ?_); rintro e w1 ⟨rfl, hC1⟩; have hz1 := hC1.size; obtain ⟨q0, q1, q2, q3⟩ := (hX.belowN hC1).c2))
                | (go_at_call 25; go_must ((with_reducible refine (Pull_calls regs a c _ l rfl ra rn rc r HRN.out wa wn wc x HWN.out PA E HPA.out HE.out w1 (h1.belowN hC1) (by omega) (hr1.belowN hC1) (hw1.belowN hC1) (by omega) (by omega)).mono ?_); rintro e w2 ⟨a2, c2, rfl, hA2, hb2⟩; have hC2 := hC1.trans (hb2.mono hC1.size); obtain ⟨q0, q1, q2, q3⟩ := (hX.belowN hC2).c2))
                | (go_at_call 26; go_must ((with_reducible refine (Pull14_calls regs a c _ l rfl ra rn rc r HRN.out wa wn wc x HWN.out PA E HPA.out HE.out w2 (h1.belowN hC2) (by omega) (hr1.belowN hC2) (hw1.belowN hC2) (by omega) (by omega)).mono ?_); rintro e w3 ⟨a3, c3, rfl, hA3, hb3⟩; have hC3 := hC2.trans (hb3.mono hC2.size)))
                | (go_at_call 27; go_must ((with_reducible refine (Same5N _ _ _ _ _ _ PA _ rfl rfl (hA2.belowN hb3).at_ hA3.at_ (by omega)).mono ?_); rintro e w4 ⟨rfl, q4, hw4⟩; have hC4 : Below _ _ w4 := (by rw [hw4]; exact below_drewN hC3 _); clear hw4))
                | (go_at_call 24; go_must ((with_reducible refine (goes22_calls _).mono ?_); rintro e w8 ⟨rfl, hb8⟩)))
              go_ret
              exact ⟨rfl, hb0.trans ((hC4.trans (hb8.mono hC4.size)).mono hb0.size)⟩
          · 
              go_enter Try.func4, Try.ntmps4
              go_wp2_with (first
                | (go_at_call 15; go_must ((with_reducible refine (HW.out).mono ?_); rintro e w1 ⟨rfl, hC1⟩; have hz1 := hC1.size; obtain ⟨q0, q1, q2, q3⟩ := (hX.belowN hC1).c2))
                | (go_at_call 24; go_must ((with_reducible refine (goes22_calls _).mono ?_); rintro e w8 ⟨rfl, hb8⟩)))
              go_ret
              exact ⟨rfl, hb0.trans ((hC1.trans (hb8.mono hC1.size)).mono hb0.size)⟩
      · 
              go_enter Try.func4, Try.ntmps4
              go_wp2_with (first
                | (go_at_call 15; go_must ((with_reducible refine (HW.out).mono ?_); rintro e w1 ⟨rfl, hC1⟩; have hz1 := hC1.size; obtain ⟨q0, q1, q2, q3⟩ := (hX.belowN hC1).c2))
                | (go_at_call 24; go_must ((with_reducible refine (goes22_calls _).mono ?_); rintro e w8 ⟨rfl, hb8⟩)))
              go_ret
              exact ⟨rfl, hb0.trans ((hC1.trans (hb8.mono hC1.size)).mono hb0.size)⟩
    · 
              go_enter Try.func4, Try.ntmps4
              go_wp2_with (first
                | (go_at_call 15; go_must ((with_reducible refine (HW.out).mono ?_); rintro e w1 ⟨rfl, hC1⟩; have hz1 := hC1.size; obtain ⟨q0, q1, q2, q3⟩ := (hX.belowN hC1).c2))
                | (go_at_call 24; go_must ((with_reducible refine (goes22_calls _).mono ?_); rintro e w8 ⟨rfl, hb8⟩)))
              go_ret
              exact ⟨rfl, hb0.trans ((hC1.trans (hb8.mono hC1.size)).mono hb0.size)⟩
  · 
              go_enter Try.func4, Try.ntmps4
              go_wp2_with (first
                | (go_at_call 15; go_must ((with_reducible refine (HW.out).mono ?_); rintro e w1 ⟨rfl, hC1⟩; have hz1 := hC1.size; obtain ⟨q0, q1, q2, q3⟩ := (hX.belowN hC1).c2))
                | (go_at_call 24; go_must ((with_reducible refine (goes22_calls _).mono ?_); rintro e w8 ⟨rfl, hb8⟩)))
              go_ret
              exact ⟨rfl, hb0.trans ((hC1.trans (hb8.mono hC1.size)).mono hb0.size)⟩
end Go.Proofs.Ythncfoompoheoaa
