/- Chapter 21: the law TapeWas. -/
import Derived.Test.YthncfoompoheoaaM20d
import Derived.Test.YthncfoompoheoaaG21
namespace Go.Proofs.Ythncfoompoheoaa
set_option linter.unusedVariables false
set_option linter.unusedSimpArgs false
open Go.RowKit
set_option maxRecDepth 100000 in
set_option maxHeartbeats 6400000 in
theorem TapeWas_calls (regs : Int) (a : Option Addr) (c : Nat) (l : List OpD) (ta : Option Addr) (tc : Nat) (t : List UInt64) (i : Int) (ra : Option Addr) (rc : Nat) (rs : List Int) (w : World) (h : At w a l) (ht : At w ta t) (hr : At w ra rs) (hl : l.length ≤ 1000000) (hi1 : -9223372036854775808 ≤ i) (hi2 : i ≤ 9223372036854775807) (hrs : ∀ r ∈ rs, -9223372036854775808 ≤ r ∧ r ≤ 9223372036854775807) :
    Calls Try.prog 7 #[.agg #[.int .i64 regs, .slice a l.length c], .slice ta t.length tc, .int .i64 i, .slice ra rs.length rc] w fun e w' => e = .returned (.bool true) ∧ Below w.heap.size w w' := by
  have hb0 := below_new12 w (.cells #[.int .i64 regs, .slice a l.length c] 24)
  have hX := Blk.new w 24 #[.int .i64 regs, .slice a l.length c]
  have h1 := h.belowN hb0
  have ht1 := ht.belowN hb0
  have hr1 := hr.belowN hb0
  have HW := hide (SizeW_calls a c l _ h1 hl)
  have hwb : 0 ≤ sizeW l ∧ sizeW l ≤ 65536 := sizeW_bd20 l
  obtain ⟨wn, hwn⟩ : ∃ wn : Nat, sizeW l = wn := ⟨(sizeW l).toNat, by omega⟩
  obtain ⟨S, hS⟩ : ∃ S, sizeE l = S := ⟨_, rfl⟩
  rw [hwn, hS] at HW
  rw [hwn] at hwb
  obtain ⟨ln, hln⟩ : ∃ ln, ln = l.length := ⟨_, rfl⟩
  obtain ⟨tn, htn⟩ : ∃ tn, tn = t.length := ⟨_, rfl⟩
  obtain ⟨rn, hrn⟩ : ∃ rn, rn = rs.length := ⟨_, rfl⟩
  rw [← hln, ← htn, ← hrn]
  rw [← hln] at HW hl hX hb0 h1 ht1 hr1
  obtain ⟨V, E, hV⟩ : ∃ V E, wasS regs l t i rs = (V, E) := ⟨_, _, rfl⟩
  have HWA := hide (fun W (k1 : At W a l) (k2 : At W ta t) (k3 : At W ra rs) (b2 : tn ≤ 1000000) (b3 : rn ≤ 1000000) => WasN regs a c ln l hln ta tn tc t htn i ra rn rc rs hrn hrs V E hV W k1 hl k2 b2 k3 b3)
  have HRW := hide (fun W (k1 : At W a l) (k2 : At W ta t) (k3 : At W ra rs) (b2 : tn ≤ 1000000) (b3 : rn ≤ 1000000) => RWasN regs a c ln l hln ta tn tc t htn i ra rn rc rs hrn hrs V E hV W k1 hl k2 b2 k3 b3 hi1 hi2)
  clear hwn hS hln htn hrn hrs hV
  by_cases g1 : 40 < ln
  · go_enter Try.func7, Try.ntmps7
    go_wp2_with (first
      | (go_at_call 15; go_must ((with_reducible refine (HW.out).mono ?_); rintro e w1 ⟨rfl, hC1⟩; have hz1 := hC1.size; obtain ⟨q0, q1, q2, q3⟩ := (hX.belowN hC1).c2))
      | (go_at_call 40; go_must ((with_reducible refine (goes21_calls _).mono ?_); rintro e w9 ⟨rfl, hb9⟩)))
    go_ret
    exact ⟨rfl, hb0.trans ((hC1.trans (hb9.mono hC1.size)).mono hb0.size)⟩
  by_cases g0 : S = 0
  · subst g0
    by_cases g2 : 300 < wn
    · go_enter Try.func7, Try.ntmps7
      go_wp2_with (first
        | (go_at_call 15; go_must ((with_reducible refine (HW.out).mono ?_); rintro e w1 ⟨rfl, hC1⟩; have hz1 := hC1.size; obtain ⟨q0, q1, q2, q3⟩ := (hX.belowN hC1).c2))
        | (go_at_call 40; go_must ((with_reducible refine (goes21_calls _).mono ?_); rintro e w9 ⟨rfl, hb9⟩)))
      go_ret
      exact ⟨rfl, hb0.trans ((hC1.trans (hb9.mono hC1.size)).mono hb0.size)⟩
    by_cases g3 : 1000 < tn
    · go_enter Try.func7, Try.ntmps7
      go_wp2_with (first
        | (go_at_call 15; go_must ((with_reducible refine (HW.out).mono ?_); rintro e w1 ⟨rfl, hC1⟩; have hz1 := hC1.size; obtain ⟨q0, q1, q2, q3⟩ := (hX.belowN hC1).c2))
        | (go_at_call 40; go_must ((with_reducible refine (goes21_calls _).mono ?_); rintro e w9 ⟨rfl, hb9⟩)))
      go_ret
      exact ⟨rfl, hb0.trans ((hC1.trans (hb9.mono hC1.size)).mono hb0.size)⟩
    by_cases g4 : 20 < rn
    · go_enter Try.func7, Try.ntmps7
      go_wp2_with (first
        | (go_at_call 15; go_must ((with_reducible refine (HW.out).mono ?_); rintro e w1 ⟨rfl, hC1⟩; have hz1 := hC1.size; obtain ⟨q0, q1, q2, q3⟩ := (hX.belowN hC1).c2))
        | (go_at_call 40; go_must ((with_reducible refine (goes21_calls _).mono ?_); rintro e w9 ⟨rfl, hb9⟩)))
      go_ret
      exact ⟨rfl, hb0.trans ((hC1.trans (hb9.mono hC1.size)).mono hb0.size)⟩
    go_enter Try.func7, Try.ntmps7
    go_wp2_with (first
      | (go_at_call 15; go_must ((with_reducible refine (HW.out).mono ?_); rintro e w1 ⟨rfl, hC1⟩; have hz1 := hC1.size; obtain ⟨q0, q1, q2, q3⟩ := (hX.belowN hC1).c2))
      | (go_at_call 41; go_must ((with_reducible refine (HWA.out _ (h1.belowN hC1) (ht1.belowN hC1) (hr1.belowN hC1) (by omega) (by omega)).mono ?_); rintro e w2 ⟨rfl, hb2⟩; have hC2 := hC1.trans (hb2.mono hC1.size); obtain ⟨u0, u1, u2, u3⟩ := (hX.belowN hC2).c2))
      | (go_at_call 42; go_must ((with_reducible refine (HRW.out _ (h1.belowN hC2) (ht1.belowN hC2) (hr1.belowN hC2) (by omega) (by omega)).mono ?_); rintro e w3 ⟨rfl, hb3⟩; have hC3 := hC2.trans (hb3.mono hC2.size)))
      | (go_at_call 40; go_must ((with_reducible refine (goes21_calls _).mono ?_); rintro e w9 ⟨rfl, hb9⟩)))
    go_ret
    exact ⟨rfl, hb0.trans ((hC3.trans (hb9.mono hC3.size)).mono hb0.size)⟩
  have e1 : (S == 0) = false := by simpa using g0
  have e2 : (S != 0) = true := by simpa using g0
  clear g0
  by_cases g3 : 1000 < tn
  · go_enter Try.func7, Try.ntmps7
    go_wp2_with (first
      | (go_at_call 15; go_must ((with_reducible refine (HW.out).mono ?_); rintro e w1 ⟨rfl, hC1⟩; have hz1 := hC1.size; obtain ⟨q0, q1, q2, q3⟩ := (hX.belowN hC1).c2))
      | (go_at_call 40; go_must ((with_reducible refine (goes21_calls _).mono ?_); rintro e w9 ⟨rfl, hb9⟩)))
    go_ret
    exact ⟨rfl, hb0.trans ((hC1.trans (hb9.mono hC1.size)).mono hb0.size)⟩
  by_cases g4 : 20 < rn
  · go_enter Try.func7, Try.ntmps7
    go_wp2_with (first
      | (go_at_call 15; go_must ((with_reducible refine (HW.out).mono ?_); rintro e w1 ⟨rfl, hC1⟩; have hz1 := hC1.size; obtain ⟨q0, q1, q2, q3⟩ := (hX.belowN hC1).c2))
      | (go_at_call 40; go_must ((with_reducible refine (goes21_calls _).mono ?_); rintro e w9 ⟨rfl, hb9⟩)))
    go_ret
    exact ⟨rfl, hb0.trans ((hC1.trans (hb9.mono hC1.size)).mono hb0.size)⟩
  go_enter Try.func7, Try.ntmps7
  go_wp2_with (first
    | (go_at_call 15; go_must ((with_reducible refine (HW.out).mono ?_); rintro e w1 ⟨rfl, hC1⟩; have hz1 := hC1.size; obtain ⟨q0, q1, q2, q3⟩ := (hX.belowN hC1).c2))
    | (go_at_call 41; go_must ((with_reducible refine (HWA.out _ (h1.belowN hC1) (ht1.belowN hC1) (hr1.belowN hC1) (by omega) (by omega)).mono ?_); rintro e w2 ⟨rfl, hb2⟩; have hC2 := hC1.trans (hb2.mono hC1.size); obtain ⟨u0, u1, u2, u3⟩ := (hX.belowN hC2).c2))
    | (go_at_call 42; go_must ((with_reducible refine (HRW.out _ (h1.belowN hC2) (ht1.belowN hC2) (hr1.belowN hC2) (by omega) (by omega)).mono ?_); rintro e w3 ⟨rfl, hb3⟩; have hC3 := hC2.trans (hb3.mono hC2.size)))
    | (go_at_call 40; go_must ((with_reducible refine (goes21_calls _).mono ?_); rintro e w9 ⟨rfl, hb9⟩)))
  go_ret
  exact ⟨rfl, hb0.trans ((hC3.trans (hb9.mono hC3.size)).mono hb0.size)⟩
end Go.Proofs.Ythncfoompoheoaa
