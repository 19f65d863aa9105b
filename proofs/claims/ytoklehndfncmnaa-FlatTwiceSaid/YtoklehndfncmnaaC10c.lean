/- Chapter 10: Program. -/
import Derived.Test.YtoklehndfncmnaaC10b
namespace Go.Proofs.Ytoklehndfncmnaa
set_option linter.unusedVariables false
set_option linter.unusedSimpArgs false
open Go.RowKit

theorem rowE_one (i : Nat) (p : PrD) : rowE i [p] = errI i p := by
  unfold rowE rowE
  by_cases h : errI i p = 0
  · rw [if_neg (by simpa using h), h]
  · rw [if_pos h]
theorem firstS_one' (p : PrD) : firstS [p] = if errI 0 p ≠ 0 then errI 0 p else if errI 1 p ≠ 0 then errI 1 p else if errI 2 p ≠ 0 then errI 2 p else if errI 3 p ≠ 0 then errI 3 p else 0 := by
  simp only [firstS, firstL, rowE_one]
theorem firstS_one (p : PrD) : firstS [p] = checkS p.regs p.l := by
  rw [firstS_one']
  unfold checkS
  by_cases h1 : formB p.l = true
  · have hw : well p.l = true := by unfold formB at h1; simp only [Bool.and_eq_true] at h1; exact h1.1.2
    have hd : (deepS p.l).1 = (deepL p.l : Int) := by unfold deepS; rw [if_pos hw]
    have hs : sizeE p.l = if (measL p.l).isSome = true then 0 else 9 := by unfold sizeE; rw [if_pos hw]
    have e0 : errI 0 p = 0 := by show (if formB p.l = true then (0 : Int) else 6) = 0; rw [if_pos h1]
    rw [e0, if_pos h1, if_neg (by simp)]
    by_cases h2 : regsB p.regs p.l = true
    · have e1 : errI 1 p = 0 := by show (if regsB p.regs p.l = true then (0 : Int) else 7) = 0; rw [if_pos h2]
      rw [e1, if_pos h2, if_neg (by simp)]
      by_cases h3 : deepL p.l ≤ 8
      · have e2 : errI 2 p = 0 := by show (if (deepS p.l).1 ≤ 8 then (0 : Int) else 8) = 0; rw [if_pos (by omega)]
        have e3 : errI 3 p = if (measL p.l).isSome = true then 0 else 9 := hs
        rw [e2, if_pos h3, if_neg (by simp), e3]
        split <;> simp
      · have e2 : errI 2 p = 8 := by show (if (deepS p.l).1 ≤ 8 then (0 : Int) else 8) = 8; rw [if_neg (by omega)]
        rw [e2, if_neg h3]
        simp
    · have e1 : errI 1 p = 7 := by show (if regsB p.regs p.l = true then (0 : Int) else 7) = 7; rw [if_neg h2]
      rw [e1, if_neg h2]
      simp
  · have e0 : errI 0 p = 6 := by show (if formB p.l = true then (0 : Int) else 6) = 6; rw [if_neg h1]
    rw [e0, if_neg h1]
    simp
theorem Prog_calls (regs : Int) (a : Option Addr) (c : Nat) (l : List OpD) (w : World) (h : At w a l) (hl : l.length ≤ 1000000) :
    Calls Try.prog 31 #[.agg #[.int .i64 regs, .slice a l.length c]] w fun e w' => e = .returned (.int .i64 (checkS regs l)) ∧ Below w.heap.size w w' := by
  have hb : Below w.heap.size w ((w.alloc (.cells #[.int .i64 regs, .slice a l.length c] 24)).alloc (.cells #[.int .i64 regs, .slice a l.length c] 87)) := Below.alloc (Below.alloc (Below.refl _ _) (Nat.le_refl _) _) (by simp) _
  have hat : At ((w.alloc (.cells #[.int .i64 regs, .slice a l.length c] 24)).alloc (.cells #[.int .i64 regs, .slice a l.length c] 87)) (some ⟨w.heap.size + 1, 0, none⟩) [(⟨regs, a, c, l⟩ : PrD)] :=
    At.ofBlk (g := w.heap.size + 1) (T := 87) (cs := #[.int .i64 regs, .slice a l.length c]) (by simpa using Blk.new (w.alloc (.cells #[.int .i64 regs, .slice a l.length c] 24)) 87 #[.int .i64 regs, .slice a l.length c]) ([⟨regs, a, c, l⟩] : List PrD) rfl
  have HF := hide (first_calls (some ⟨w.heap.size + 1, 0, none⟩) 1 [⟨regs, a, c, l⟩] _ hat (by simp) (fun p hp => (by simp at hp; subst hp; exact ⟨h.belowN hb, hl⟩ : At _ p.a p.l ∧ p.l.length ≤ 1000000)))
  rw [firstS_one] at HF
  simp only [List.length_singleton] at HF
  generalize checkS regs l = V at *
  go_enter Try.func31, Try.ntmps31
  go_wp2_with (go_at_call 47; ((with_reducible refine (HF.out).mono ?_); rintro e w1 ⟨rfl, hb1⟩))
  go_ret
  exact ⟨rfl, hb.trans (hb1.mono hb.size)⟩
end Go.Proofs.Ytoklehndfncmnaa
