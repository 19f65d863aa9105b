/- Chapter 12: the walk of the law FlatMany. -/
import Derived.Test.YtoklehndfncmnaaG12b
namespace Go.Proofs.Ytoklehndfncmnaa
set_option linter.unusedVariables false
set_option linter.unusedSimpArgs false
open Go.RowKit

set_option maxRecDepth 100000 in
set_option maxHeartbeats 1600000 in
theorem FlatMany_calls (regs : Int) (a : Option Addr) (c : Nat) (l : List OpD) (w : World) (h : At w a l) :
    Calls Try.prog 5 #[.agg #[.int .i64 regs, .slice a l.length c]] w fun e w' => e = .returned (.bool true) ∧ Below w.heap.size w w' := by
  have hb0 := below_new12 w (.cells #[.int .i64 regs, .slice a l.length c] 24)
  have hX := Blk.new w 24 #[.int .i64 regs, .slice a l.length c]
  have h1 := h.belowN hb0
  by_cases hl : l.length ≤ 100
  · obtain ⟨R, hR⟩ : ∃ R, unrS regs l = R := ⟨_, rfl⟩
    obtain ⟨E, hE⟩ : ∃ E, checkS regs l = E := ⟨_, rfl⟩
    have hRl := unrS_le regs l
    have hSl := stepsS_le regs l
    have HST := hide (fun w' (g : At w' a l) => Steps_calls regs a c l w' g (by omega))
    have HSZ := hide (fun w' (g : At w' a l) => SizeW_calls a c l w' g (by omega))
    rw [hE] at HST
    by_cases hc : E = 0
    · obtain ⟨f, rfl, g⟩ := good_of_check (hE.trans hc)
      rw [stepsS_good g, steps_length] at HST hSl
      obtain ⟨z1, z2, z3, z4⟩ := W9_ok g.ok ⟨g.may, g.few⟩
      rw [z1, z2] at HSZ
      have hRw : R.length = f.wr := by rw [← hR, unrS_good g, Fo.unroll_length]
      rw [← hRw] at HSZ
      have g1 := f.bare.gone_ge
      have g2 := f.bare.gone_le f.bare_full 8 (Nat.le_trans f.bare_dp g.deep)
      rw [f.bare_wr, ← hRw] at g1 g2
      have hkd : ∀ x ∈ R, 1 ≤ x.kind ∧ x.kind ≤ 6 := fun x hx => (f.unroll_mem g.ok x (by rw [← unrS_good g, hR]; exact hx)).2
      generalize f.bare.gone.length = S at *
      rw [hR] at hRl
      have g3 : S ≤ R.length * 17 := g2
      have HR := hide hR
      have HE := hide hE
      have HKD := hide hkd
      subst hc
      clear hR hE hkd hRw z1 z2 z3 z4 g g2
      go_enter Try.func5, Try.ntmps5
      go_wp2_with (first
        | (go_at_call 15; (with_reducible refine (UnrollR regs a c _ _ R 0 HR.out HE.out h1 (by omega)).mono ?_); rintro e w1 ⟨a1, c1, rfl, hown1, hb1⟩; have hB1 := hb0.trans (hb1.mono hb0.size); have hz1 := hB1.size; have hX1 := hX.belowN hb1; obtain ⟨q0, q1, q2, q3⟩ := hX1.c2; have h2 := h1.belowN hb1)
        | (go_at_call 17; (with_reducible refine (HST.out _ h2).mono ?_); rintro e w3 ⟨rfl, hb3⟩; have hB3 := hB1.trans (hb3.mono hz1); have hz3 := hB3.size; have hX3 := hX1.belowN hb3; obtain ⟨s0, s1, s2, s3⟩ := hX3.c2; have h4 := h2.belowN hb3; have hm3 := hown1.belowN hb3)
        | (go_at_call 20; (with_reducible refine (HSZ.out _ h4).mono ?_); rintro e w4 ⟨rfl, hb4⟩; have hB4 := hB3.trans (hb4.mono hz3); have hz4 := hB4.size; have hm4 := (hm3.belowN hb4).at_))
      go_loopw [9] (fun i wr => ∃ k : Nat, k ≤ R.length ∧ i = .int .i64 k ∧ ∃ q, wr = w4.drewN q) (fun i _ => R.length - (intOf i).toNat)
      case atStart => exact ⟨0, by omega, rfl, ⟨0, rfl⟩⟩
      case round =>
        obtain ⟨k, hk, rfl, q, rfl⟩ := hrel
        by_cases hlt : k < R.length
        · obtain ⟨b1, off1, rfl, x0, x1, x2, x3, x4⟩ := getOp_eq hm4 (Below.refl _ _) (List.getElem?_eq_getElem hlt)
          obtain ⟨k1, k2⟩ := HKD.out R[k] (List.getElem_mem hlt)
          generalize R[k] = X at *
          have k7 : (X.kind == 7) = false := by simp; omega
          have k0 : (X.kind == 0) = false := by simp; omega
          clear k1 k2
          go_wp2
          go_roundw
          case rel => exact ⟨k + 1, by omega, by go_num, ⟨_, rfl⟩⟩
          case measure => simp [intOf]; omega
        · have d1 : decide (R.length ≤ S) = true := by simpa using g1
          go_wp2_with (go_at_call 12; (with_reducible refine (goes12_calls _).mono ?_); rintro e w8 ⟨rfl, hbel8⟩)
          go_ret
          exact ⟨rfl, (below_drewN hB4 _).trans (hbel8.mono (by simp; omega))⟩
    · rw [stepsS_bad (by rw [hE]; exact hc)] at HST
      rw [unrS_bad (by rw [hE]; exact hc)] at hR
      subst hR
      have HR := hide (unrS_bad (by rw [hE]; exact hc) : unrS regs l = [])
      have HE := hide hE
      have e1 : (E == 0) = false := by simpa using hc
      have e2 : (E != 0) = true := by simpa using hc
      clear hE hc
      go_enter Try.func5, Try.ntmps5
      go_wp2_with (first
        | (go_at_call 15; (with_reducible refine (UnrollR regs a c _ _ [] E HR.out HE.out h1 (by omega)).mono ?_); rintro e w1 ⟨a1, c1, rfl, hown1, hb1⟩; have hB1 := hb0.trans (hb1.mono hb0.size); have hz1 := hB1.size; have hX1 := hX.belowN hb1; obtain ⟨q0, q1, q2, q3⟩ := hX1.c2; have h2 := h1.belowN hb1)
        | (go_at_call 17; (with_reducible refine (HST.out _ h2).mono ?_); rintro e w3 ⟨rfl, hb3⟩; have hB3 := hB1.trans (hb3.mono hz1); have hz3 := hB3.size)
        | (go_at_call 12; (with_reducible refine (goes12_calls _).mono ?_); rintro e w8 ⟨rfl, hbel8⟩))
      go_ret
      exact ⟨rfl, hB3.trans (hbel8.mono hz3)⟩
  · go_enter Try.func5, Try.ntmps5
    go_wp2_with (go_at_call 12; (with_reducible refine (goes12_calls _).mono ?_); rintro e w8 ⟨rfl, hbel8⟩)
    go_ret
    exact ⟨rfl, hb0.trans (hbel8.mono hb0.size)⟩
end Go.Proofs.Ytoklehndfncmnaa
