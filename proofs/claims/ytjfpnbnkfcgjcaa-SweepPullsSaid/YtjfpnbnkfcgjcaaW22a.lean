/- Chapter 22: SweepPulls. -/
import Derived.Test.YtjfpnbnkfcgjcaaG22
import Derived.Test.YtjfpnbnkfcgjcaaR22c
import Derived.Test.YtjfpnbnkfcgjcaaW21a
namespace Go.Proofs.Ytjfpnbnkfcgjcaa
set_option linter.unusedVariables false
set_option linter.unusedSimpArgs false
open Go.RowKit
set_option maxRecDepth 100000 in
set_option maxHeartbeats 3200000 in
theorem SweepPulls_calls (regs : Int) (a : Option Addr) (c : Nat) (l : List OpD) (ra : Option Addr) (rc : Nat) (r : List UInt64) (ta : Option Addr) (tc : Nat) (t : List UInt64) (w : World) (h : At w a l) (hr : At w ra r) (ht : At w ta t) :
    Calls Try.prog 6 #[.agg #[.int .i64 regs, .slice a l.length c], .slice ra r.length rc, .slice ta t.length tc] w fun e w' => e = .returned (.bool true) ∧ Below w.heap.size w w' := by
  have hb0 := below_new12 w (.cells #[.int .i64 regs, .slice a l.length c] 24)
  have hX := Blk.new w 24 #[.int .i64 regs, .slice a l.length c]
  have h1 := h.belowN hb0
  have hr1 := hr.belowN hb0
  have ht1 := ht.belowN hb0
  have hX0 := hX
  obtain ⟨i0, i1, i2, i3⟩ := hX0.c2
  by_cases hg1 : r.length ≤ 100
  · by_cases hg2 : t.length ≤ 100
    · cases hs : small13 regs l 100 with
      | false =>
        have HS := hide hs
        clear hs
        go_enter Try.func6, Try.ntmps6
        go_wp2_with (first
          | (go_at_call 21; (with_reducible refine (Small13_calls regs a c l _ false HS.out _ h1 (by omega)).mono ?_); rintro e w1 ⟨rfl, hb1⟩; have hB1 := hb0.trans (hb1.mono hb0.size); have hz1 := hB1.size)
          | (go_at_call 14; (with_reducible refine (goes22_calls _).mono ?_); rintro e w8 ⟨rfl, hbel8⟩))
        go_ret
        exact ⟨rfl, hB1.trans (hbel8.mono hz1)⟩
      | true =>
        have hsl := small_le21 hs
        have HS := hide hs
        obtain ⟨A, hA⟩ : ∃ A, pullA regs l r t = A := ⟨_, rfl⟩
        obtain ⟨E, hE⟩ : ∃ E, pullE regs l r.length t.length = E := ⟨_, rfl⟩
        have hAl : A.length ≤ 64 := by rw [← hA]; exact pullA_len regs l r t
        obtain ⟨rn, hrn⟩ : ∃ rn, rn = r.length := ⟨_, rfl⟩
        obtain ⟨tn, htn⟩ : ∃ tn, tn = t.length := ⟨_, rfl⟩
        obtain ⟨an, han⟩ : ∃ an, an = A.length := ⟨_, rfl⟩
        rw [← hrn] at hE hg1 ⊢
        rw [← htn] at hE hg2 ⊢
        have P1 := fun W (q1 : At W a l) (q2 : At W ra r) (q3 : At W ta t) => Pull_calls regs a c _ l rfl ra rn rc r hrn ta tn tc t htn A E hA hE W q1 (by omega) q2 q3 (by omega) (by omega)
        have P2 := fun W (q1 : At W a l) (q2 : At W ra r) (q3 : At W ta t) => RPull_calls regs a c _ l rfl ra rn rc r hrn ta tn tc t htn A E hA hE W q1 (by omega) q2 q3 (by omega) (by omega)
        rw [← han] at P1 P2 hAl
        have HP1 := hide P1
        have HP2 := hide P2
        have HAN := hide han
        clear hs hA hE hrn htn han P1 P2
        go_enter Try.func6, Try.ntmps6
        go_wp2_with (first
          | (go_at_call 21; (with_reducible refine (Small13_calls regs a c l _ true HS.out _ h1 (by omega)).mono ?_); rintro e w1 ⟨rfl, hC1⟩; have hz1 := hC1.size; obtain ⟨q0, q1, q2, q3⟩ := (hX.belowN hC1).c2)
          | (go_at_call 15; go_must ((with_reducible refine (HP1.out w1 (h1.belowN hC1) (hr1.belowN hC1) (ht1.belowN hC1)).mono ?_); rintro e w2 ⟨a2, c2, rfl, hA2, hb2⟩; have hC2 := hC1.trans (hb2.mono hC1.size); obtain ⟨q0, q1, q2, q3⟩ := (hX.belowN hC2).c2))
          | (go_at_call 24; go_must ((with_reducible refine (HP2.out w2 (h1.belowN hC2) (hr1.belowN hC2) (ht1.belowN hC2)).mono ?_); rintro e w3 ⟨a3, c3, rfl, hA3, hb3⟩; have hC3 := hC2.trans (hb3.mono hC2.size); have hA23 := (hA2.belowN hb3).at_; have hA33 := hA3.at_))
          | (go_at_call 17; go_must ((with_reducible refine (Same5N _ _ an an _ _ A _ HAN.out HAN.out hA23 hA33 (by omega)).mono ?_); rintro e w6 ⟨rfl, q6, hw6⟩; have hC6 : Below _ _ w6 := (by rw [hw6]; exact below_drewN hC3 _); clear hw6))
          | (go_at_call 14; go_must ((with_reducible refine (goes22_calls _).mono ?_); rintro e w14 ⟨rfl, hb14⟩; have hC14 := hC6.trans (hb14.mono hC6.size))))
        go_ret
        exact ⟨rfl, hb0.trans (hC14.mono hb0.size)⟩
    · go_enter Try.func6, Try.ntmps6
      go_wp2_with (go_at_call 14; (with_reducible refine (goes22_calls _).mono ?_); rintro e w8 ⟨rfl, hbel8⟩)
      go_ret
      exact ⟨rfl, hb0.trans (hbel8.mono hb0.size)⟩
  · go_enter Try.func6, Try.ntmps6
    go_wp2_with (go_at_call 14; (with_reducible refine (goes22_calls _).mono ?_); rintro e w8 ⟨rfl, hbel8⟩)
    go_ret
    exact ⟨rfl, hb0.trans (hbel8.mono hb0.size)⟩
end Go.Proofs.Ytjfpnbnkfcgjcaa
