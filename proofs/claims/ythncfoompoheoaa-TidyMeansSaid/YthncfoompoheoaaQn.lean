/- Several texts of mine in one file: Sm. -/
import Derived.Test.YthncfoompoheoaaQk
import Derived.Test.YthncfoompoheoaaQb
import Derived.Test.YthncfoompoheoaaQj
/- forward's contracts with their results named; is a program small (layer 13's law)? -/
namespace Go.Proofs.Ythncfoompoheoaa
set_option linter.unusedVariables false
set_option linter.unusedSimpArgs false
open Go.RowKit

theorem RunN (regs : Int) (a : Option Addr) (c ln : Nat) (l : List OpD) (ra : Option Addr) (rc rn : Nat) (r : List UInt64) (w : World) (X : List UInt64) (E : Int) (hln : ln = l.length) (hrn : rn = r.length) (hX : uptoS regs l r (-1) = X) (hE : dimsS regs l r.length = E)
    (h : At w a l) (hl : ln ≤ 1000000) (hr : At w ra r) (hrl : rn ≤ 1000000) :
    Calls Try.prog 55 #[.agg #[.int .i64 regs, .slice a ln c], .slice ra rn rc] w fun e w' => ∃ a' c', e = .returned (.tuple #[.slice a' X.length c', .int .i64 E]) ∧ Own w' w.heap.size 68 a' c' X ∧ Below w.heap.size w w' := by
  subst hln hrn hX hE
  exact Run_calls regs a c l ra rc r w h hl hr 

noncomputable def small13 (regs : Int) (l : List OpD) (most : Int) : Bool := decide ((l.length : Int) ≤ most) && (decide (checkS regs l ≠ 0) || decide ((unrS regs l).length ≤ 3000))
theorem Small13_calls (regs : Int) (a : Option Addr) (c : Nat) (l : List OpD) (most : Int) (B : Bool) (hB : small13 regs l most = B) (w : World) (h : At w a l) (hm : most ≤ 1000000) :
    Calls Try.prog 28 #[.agg #[.int .i64 regs, .slice a l.length c], .int .i64 most] w fun e w' => e = .returned (.bool B) ∧ Below w.heap.size w w' := by
  have hb0 := below_new12 w (.cells #[.int .i64 regs, .slice a l.length c] 24)
  have h1 := h.belowN hb0
  subst hB
  unfold small13
  by_cases h0 : (l.length : Int) ≤ most
  · obtain ⟨R, hR⟩ : ∃ R, unrS regs l = R := ⟨_, rfl⟩
    obtain ⟨E, hE⟩ : ∃ E, checkS regs l = E := ⟨_, rfl⟩
    rw [hR, hE]
    have HR := hide hR
    have HE := hide hE
    have hRl := unrS_le regs l
    rw [hR] at hRl
    clear hR hE
    by_cases hc : E = 0
    · subst hc
      go_enter Try.func28, Try.ntmps28
      go_wp2_with (go_at_call 80; (with_reducible refine (UnrollR regs a c l _ R 0 HR.out HE.out h1 (by omega)).mono ?_); rintro e w1 ⟨a1, c1, rfl, hown1, hb1⟩)
      go_ret
      exact ⟨by simp [h0]; omega, hb0.trans (hb1.mono hb0.size)⟩
    · have e2 : (E != 0) = true := by simpa using hc
      have HH := hide hc
      clear hc
      go_enter Try.func28, Try.ntmps28
      go_wp2_with (go_at_call 80; (with_reducible refine (UnrollR regs a c l _ R E HR.out HE.out h1 (by omega)).mono ?_); rintro e w1 ⟨a1, c1, rfl, hown1, hb1⟩)
      go_ret
      exact ⟨by simp [h0, HH.out], hb0.trans (hb1.mono hb0.size)⟩
  · go_enter Try.func28, Try.ntmps28
    go_wp2
    go_ret
    exact ⟨by rw [decide_eq_false (by omega), Bool.false_and]; rfl, hb0⟩

end Go.Proofs.Ythncfoompoheoaa
