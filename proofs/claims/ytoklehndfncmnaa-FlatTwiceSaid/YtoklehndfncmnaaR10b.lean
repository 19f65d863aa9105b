/- Chapter 10, the document's answers: the looks, and Program. -/
import Derived.Test.YtoklehndfncmnaaR10
namespace Go.Proofs.Ytoklehndfncmnaa
set_option linter.unusedVariables false
set_option linter.unusedSimpArgs false
open Go.RowKit

set_option maxHeartbeats 1600000 in
theorem Look_calls (k : Nat) (hk : k < 4) (regs : Int) (a : Option Addr) (c : Nat) (l : List OpD) (w : World) (h : At w a l) (hl : l.length ≤ 1000000) :
    Calls Try.prog 50 #[.agg #[.int .i64 regs, .slice a l.length c], .int .i64 (k : Int)] w fun e w' => e = .returned (.int .i64 (errI k ⟨regs, a, c, l⟩)) ∧ Below w.heap.size w w' := by
  have h1 := h.belowN (below_new w (.cells #[.int .i64 regs, .slice a l.length c] 24))
  have hb0 := below_new w (.cells #[.int .i64 regs, .slice a l.length c] 24)
  have HF := hide (form10_calls regs a c l _ h1 hl)
  have HG := hide (registers10_calls regs a c l _ h1 hl)
  have HD := hide (Deep8_calls a c l _ h1 hl)
  have HW := hide (Writes9_calls a c l _ h1 hl)
  obtain ⟨E, hE⟩ : ∃ E, E = errI k ⟨regs, a, c, l⟩ := ⟨_, rfl⟩
  rw [← hE]
  have h4 : k = 0 ∨ k = 1 ∨ k = 2 ∨ k = 3 := by omega
  rcases h4 with rfl | rfl | rfl | rfl
  · have hE2 : E = if formB l = true then 0 else 6 := hE
    generalize formB l = F at *
    have HE := hide hE2
    clear hE hE2
    cases F
    all_goals
      go_enter Try.func50, Try.ntmps50
      go_wp2_with (go_at_call 62; ((with_reducible refine (HF.out).mono ?_); rintro e w1 ⟨rfl, hb1⟩))
      go_ret
      exact ⟨by rw [HE.out] <;> rfl, hb0.trans (hb1.mono hb0.size)⟩
  · have hE2 : E = if regsB regs l = true then 0 else 7 := hE
    generalize regsB regs l = F at *
    have HE := hide hE2
    clear hE hE2
    cases F
    all_goals
      go_enter Try.func50, Try.ntmps50
      go_wp2_with (go_at_call 63; ((with_reducible refine (HG.out).mono ?_); rintro e w1 ⟨rfl, hb1⟩))
      go_ret
      exact ⟨by rw [HE.out] <;> rfl, hb0.trans (hb1.mono hb0.size)⟩
  · have hE2 : E = if (deepS l).1 ≤ 8 then 0 else 8 := hE
    generalize (deepS l).1 = D at *
    generalize (deepS l).2 = D2 at *
    have HE := hide hE2
    clear hE hE2
    by_cases hd : D ≤ 8
    · have HE2 : Hid (E = 0) := by show E = 0; rw [HE.out, if_pos hd]
      clear HE
      go_enter Try.func50, Try.ntmps50
      go_wp2_with (go_at_call 64; ((with_reducible refine (HD.out).mono ?_); rintro e w1 ⟨rfl, rfl⟩))
      go_ret
      exact ⟨by rw [HE2.out] <;> rfl, hb0⟩
    · have HE2 : Hid (E = 8) := by show E = 8; rw [HE.out, if_neg hd]
      clear HE
      go_enter Try.func50, Try.ntmps50
      go_wp2_with (go_at_call 64; ((with_reducible refine (HD.out).mono ?_); rintro e w1 ⟨rfl, rfl⟩))
      go_ret
      exact ⟨by rw [HE2.out] <;> rfl, hb0⟩
  · have hE2 : E = sizeE l := hE
    rw [← hE2] at HW
    clear hE hE2
    go_enter Try.func50, Try.ntmps50
    go_wp2_with (go_at_call 65; ((with_reducible refine (HW.out).mono ?_); rintro e w1 ⟨rfl, hb1⟩))
    go_ret
    exact ⟨rfl, hb0.trans (hb1.mono hb0.size)⟩

set_option maxHeartbeats 1600000 in
theorem Prog10_calls (regs : Int) (a : Option Addr) (c : Nat) (l : List OpD) (w : World) (h : At w a l) (hl : l.length ≤ 1000000) :
    Calls Try.prog 34 #[.agg #[.int .i64 regs, .slice a l.length c]] w fun e w' => e = .returned (.int .i64 (checkS regs l)) ∧ Below w.heap.size w w' := by
  have h1 := h.belowN (below_new w (.cells #[.int .i64 regs, .slice a l.length c] 24))
  have hb0 := below_new w (.cells #[.int .i64 regs, .slice a l.length c] 24)
  have hX := Blk.new w 24 #[.int .i64 regs, .slice a l.length c]
  have HL := hide (fun k hk w' (g : At w' a l) => Look_calls k hk regs a c l w' g hl)
  obtain ⟨R, hR⟩ : ∃ R, R = checkS regs l := ⟨_, rfl⟩
  have hR2 : R = firstL [⟨regs, a, c, l⟩] [0, 1, 2, 3] := hR.trans (firstS_one ⟨regs, a, c, l⟩).symm
  rw [← hR]
  have HR := hide hR2
  clear hR hR2
  go_enter Try.func34, Try.ntmps34
  go_wp2
  obtain ⟨W0, hW0⟩ : ∃ W0, W0 = w.alloc (.cells #[.int .i64 regs, .slice a l.length c] 24) := ⟨_, rfl⟩
  rw [← hW0] at hX h1 hb0 ⊢
  clear hW0
  go_loopw [3] (fun i wr => ∃ k : Nat, i = .int .i64 k ∧ k ≤ 4 ∧ Hid (R = firstL [⟨regs, a, c, l⟩] ([0, 1, 2, 3].drop k)) ∧ Below W0.heap.size W0 wr) (fun i _ => 4 - (intOf i).toNat)
  case atStart => exact ⟨0, rfl, by omega, HR.out, Below.refl _ _⟩
  case round =>
    obtain ⟨k, rfl, hk, hRk, hbr⟩ := hrel
    obtain ⟨q0, q1, q2, q3⟩ := (hX.belowN hbr).c2
    by_cases hlt : k < 4
    · have hR2 : R = if rowE k [⟨regs, a, c, l⟩] ≠ 0 then rowE k [⟨regs, a, c, l⟩] else firstL [⟨regs, a, c, l⟩] ([0, 1, 2, 3].drop (k + 1)) := by
        rw [hRk.out]
        have h4 : k = 0 ∨ k = 1 ∨ k = 2 ∨ k = 3 := by omega
        rcases h4 with rfl | rfl | rfl | rfl <;> rfl
      rw [rowE_one] at hR2
      have HC := hide (HL.out k hlt wr (h1.belowN hbr))
      obtain ⟨E, hE⟩ : ∃ E, E = errI k ⟨regs, a, c, l⟩ := ⟨_, rfl⟩
      rw [← hE] at HC hR2
      have HR2 := hide hR2
      clear hE hR2 hRk
      by_cases hE0 : E = 0
      · obtain rfl := hE0
        go_wp2_with (go_at_call 50; ((with_reducible refine (HC.out).mono ?_); rintro e w1 ⟨rfl, hb1⟩))
        go_roundw
        case rel => exact ⟨k + 1, by go_num, by omega, by show R = _; rw [HR2.out]; rfl, hbr.trans (hb1.mono hbr.size)⟩
        case measure => simp [intOf]; omega
      · have hE1 : (E == 0) = false := by simpa using hE0
        have hE2 : (E != 0) = true := by simpa using hE0
        have HE0 := hide hE0
        clear hE0
        go_wp2_with (go_at_call 50; ((with_reducible refine (HC.out).mono ?_); rintro e w1 ⟨rfl, hb1⟩))
        go_ret
        exact ⟨by rw [HR2.out, if_pos HE0.out] <;> rfl, hb0.trans ((hbr.trans (hb1.mono hbr.size)).mono hb0.size)⟩
    · obtain rfl : k = 4 := by omega
      go_wp2
      go_ret
      exact ⟨by rw [hRk.out] <;> rfl, hb0.trans (hbr.mono hb0.size)⟩
end Go.Proofs.Ytoklehndfncmnaa
