/- Proved: the law PolyEvals answers true, whatever it is given, and leaves its arguments as they were. No condition. -/
import Derived.Test.YtcamcnahkdiefaaOpen7
import Derived.Test.YtcamcnahkdiefaaW3f
namespace Go.Proofs.Ytcamcnahkdiefaa
set_option linter.unusedVariables false
set_option linter.unusedSimpArgs false
open Go.ChangeShapes Go.WideShapes Go.ChangeAt Go.RowKit

set_option maxRecDepth 100000 in
theorem polyEvals_lifted (os : Os) (started : os.Started) (H : Type) (enc : TypeId × Value → H) :
    ReturnsInHanded {} Try.checked os 5 .any (Rows.polyEvalsSpec.pre6 enc Try.prog Try.f5 Rows.polyEvalsRow.domain false) (Rows.polyEvalsSpec.post enc Try.prog Try.f5 false true false false) := by
  refine returnsInHanded_of_change (C := Try.checked) own_ started (by kernel_rfl) Try.func5
    (ChangeSpec.witness6 (enc := enc) (C := Try.checked) false ⟨#[], #[.agg #[.int .i64 0, .slice none 0 0], .agg #[.int .i64 0, .slice none 0 0], .slice none 0 0], []⟩ 8 (by kernel_rfl) (by kernel_rfl) (by kernel_rfl) (by kernel_rfl)) ?_
  intro W base args ds gs before hval0 hW hcnd _
  have hval : ∀ (j : Nat) t v, Try.f5.params[j]? = some t → args[j]? = some v → Value.okWide Try.prog W .any base t v := hval0
  have hW' := hW
  obtain ⟨p, q, hA0, hV, rfl, hfz, hnd⟩ := hW
  have hA : DataW.TrodAll enc Try.prog W 0 (fun _ => true) true Try.f5.params.toList args.toList ds p := hA0
  rw [Try.params5] at hA hval
  obtain ⟨rfl, rfl⟩ := trodVars_none hV
  obtain ⟨v0, v1, v2, d0, d1, d2, p0, p1, p2, rfl, rfl, rfl, h0, h1, h2⟩ := trodAll_three hA
  obtain ⟨s0, rfl, z0⟩ := okWide_struct Try.underlying24 (hval 0 24 v0 rfl rfl)
  obtain ⟨k0, hk0⟩ := h0
  obtain ⟨pv, a0, n0, c0, p, e0, w0, T0⟩ := open_poly hk0
  obtain rfl : s0 = #[.int .i64 pv, .slice a0 n0 c0] := Array.ext' (by simpa [Value.cells] using e0)
  obtain ⟨s1, rfl, z1⟩ := okWide_struct Try.underlying24 (hval 1 24 v1 rfl rfl)
  obtain ⟨k1, hk1⟩ := h1
  obtain ⟨qv, a1, n1, c1, q, e1, w1, T1⟩ := open_poly hk1
  obtain rfl : s1 = #[.int .i64 qv, .slice a1 n1 c1] := Array.ext' (by simpa [Value.cells] using e1)
  obtain ⟨a2, n2, c2, rfl⟩ := okWide_slice Try.underlying25 (hval 2 25 v2 rfl rfl)
  obtain ⟨k2, hk2⟩ := h2
  obtain ⟨b2, r2, x, e2, g2, m2, at2⟩ := open_words Try.underlying25 Try.underlying33 (by kernel_rfl) hk2
  simp [Value.cells] at e2
  obtain ⟨rfl, rfl, rfl⟩ := e2
  unfold maxLen at *
  have walk := PolyEvals_calls pv qv a0 a1 a2 n0 c0 n1 c1 x.length c2 p q x rfl W T0 T1 at2
  exact (walk).mono fun e W' ⟨he, hb⟩ => ⟨_, he, law_post laid_ hW' rfl rfl rfl Try.underlying4 (by intro t ht; simp [Try.params5] at ht; rcases ht with rfl | rfl | rfl | rfl | rfl <;> exact ⟨by kernel_rfl, of_decide_eq_true (by kernel_rfl)⟩) hb⟩

theorem polyEvals_holds : Rows.PolyEvalsSaid :=
  OpenClaim.holds_of_wide 5 Try.f5 rfl rfl rfl rfl rfl rfl rfl ⟨rfl, rfl, rfl, rfl, rfl⟩ rfl rfl rfl rfl rfl (by kernel_rfl) Try.func5 (by kernel_rfl)
    (of_decide_eq_true (by kernel_rfl)) (by unfold Func.isWrapper; first | (rw [if_pos (by decide +kernel)]; kernel_rfl) | (rw [if_neg (by decide +kernel)]; exact ⟨rfl, rfl⟩))
    (fun os started H enc _ => polyEvals_lifted os started H enc)
end Go.Proofs.Ytcamcnahkdiefaa
