/- Chapter 14: ref14.Along. -/
import Derived.Test.YthncfoompoheoaaDr
namespace Go.Proofs.Ythncfoompoheoaa
set_option linter.unusedVariables false
set_option linter.unusedSimpArgs false
open Go.RowKit
def ofWords (r : List UInt64) : List DuD := r.map fun x => ⟨x, 0⟩
theorem ofWords_length (r : List UInt64) : (ofWords r).length = r.length := by simp [ofWords]
set_option maxRecDepth 100000 in
set_option maxHeartbeats 3200000 in
theorem Along_bad (regs : Int) (a : Option Addr) (c ln : Nat) (l : List OpD) (hln : ln = l.length) (ra : Option Addr) (rn rc : Nat) (r : List UInt64) (hrn : rn = r.length) (i : Int) (E : Int) (hE : dualE regs l rn = E) (h0 : E ≠ 0) (w : World) (h : At w a l) (hl : ln ≤ 1000000) (hr : At w ra r) (hrb : rn ≤ 1000000) :
    Calls Try.prog 35 #[.agg #[.int .i64 regs, .slice a ln c], .slice ra rn rc, .int .i64 i] w fun e w' => e = .returned (.tuple #[.slice none 0 0, .int .i64 E]) ∧ Below w.heap.size w w' := by
  have hb0 := below_new12 w (.cells #[.int .i64 regs, .slice a ln c] 24)
  have hX := Blk.new w 24 #[.int .i64 regs, .slice a ln c]
  have g1 := h.belowN hb0
  have hr1 := hr.belowN hb0
  have e1 : (E == 0) = false := by simpa using h0
  have e2 : (E != 0) = true := by simpa using h0
  have HRN := hide hrn
  have HLN := hide hln
  obtain ⟨A, hA⟩ : ∃ A, dualR regs l (ofWords r) = A := ⟨_, rfl⟩
  have HA := hide hA
  have HE := hide hE
  clear h0 hE hA hrn hln
  obtain ⟨w1, hw1⟩ : ∃ w1, w1 = w.alloc (.cells #[.int .i64 regs, .slice a ln c] 24) := ⟨_, rfl⟩
  rw [← hw1] at hb0 hX g1 hr1
  have hz1 : w1.heap.size = w.heap.size + 1 := by rw [hw1]; simp
  have HW1 := hide hw1.symm
  clear hw1
  go_enter Try.func35, Try.ntmps35
  go_wp2
  rw [HW1.out]
  clear HW1
  go_loopw [8, 9] (fun bv iv wr => ∃ (k : Nat) (ab : Option Addr) (cb : Nat), iv = .int .i64 k ∧ k ≤ rn ∧ bv = .slice ab k cb ∧ Own wr w1.heap.size 92 ab cb (ofWords (r.take k)) ∧ Below w1.heap.size w1 wr) (fun _ iv _ => rn - (intOf iv).toNat)
  case atStart => exact ⟨0, _, 0, rfl, by omega, rfl, by have h := Own.new w1 (Nat.le_refl _) 92 DuD; rw [hz1] at h ⊢; exact h, below_new12 w1 _⟩
  case round =>
    obtain ⟨k, ab, cb, rfl, hk, rfl, hB, hb⟩ := hrel
    have hzr := hb.size
    by_cases hlt : k < rn
    · obtain ⟨b1, off1, x, rfl, hx, c0⟩ := hr1.getU hb (show k < r.length by have := HRN.out; omega)
      have HX := hide (show ofWords (r.take k) ++ [(⟨x, 0⟩ : DuD)] = ofWords (r.take (k + 1)) by rw [List.take_add_one, hx.out]; simp [ofWords])
      have HKL := hide (show k = (ofWords (r.take k)).length by have := HRN.out; rw [ofWords_length, List.length_take]; omega)
      go_wp2_with (at_builtin; refine wpList_push tyD hB (⟨x, 0⟩ : DuD) rfl rfl rfl rfl rfl rfl HKL.out hzr (by omega) ?_; intro a8 c8 w8 hown8 hg8 _)
      go_roundw
      case rel => exact ⟨k + 1, a8, c8, by go_num, by omega, rfl, by rw [← HX.out]; exact hown8, below_push hb hB hg8 hzr⟩
      case measure => simp [intOf] <;> omega
    · have hkn : k = rn := by omega
      subst hkn
      rw [show r.take k = r by rw [HRN.out, List.take_length]] at hB
      have HOL := hide (show k = (ofWords r).length by rw [ofWords_length, HRN.out])
      clear hlt hk
      obtain ⟨q0, q1, q2, q3⟩ := (hX.belowN hb).c2
      go_wp2_with (go_at_call 31; go_must ((with_reducible refine (Run14_calls regs a c ln l HLN.out ab k cb (ofWords r) HOL.out A E HA.out HE.out wr (g1.belowN hb) (by omega) hB.at_).mono ?_); rintro e w2 ⟨a2, c2, rfl, hown2, hb2⟩; have hC2 := hb.trans (hb2.mono hb.size)))
      go_ret2
      exact ⟨rfl, hb0.trans (hC2.mono hb0.size)⟩
end Go.Proofs.Ythncfoompoheoaa
