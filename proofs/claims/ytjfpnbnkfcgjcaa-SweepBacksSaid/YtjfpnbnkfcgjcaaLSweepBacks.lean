/- Proved: the law SweepBacks answers true, whatever it is given, and leaves its arguments as they were. No condition. -/
import Derived.Test.YtjfpnbnkfcgjcaaQo
import Derived.Test.YtjfpnbnkfcgjcaaW22b
import Derived.Carry
namespace Go.Proofs.Ytjfpnbnkfcgjcaa
set_option linter.unusedVariables false
set_option linter.unusedSimpArgs false
open Go.ChangeShapes Go.WideShapes Go.ChangeAt Go.RowKit

set_option maxRecDepth 100000 in
theorem sweepBacks_lifted (os : Os) (started : os.Started) (H : Type) (enc : TypeId × Value → H) :
    ReturnsInHanded {} Try.checked os 5 .any (Rows.sweepBacksSpec.pre6 enc Try.prog Try.f5 Rows.sweepBacksRow.domain false) (Rows.sweepBacksSpec.post enc Try.prog Try.f5 false true false false) := by
  refine returnsInHanded_of_change (C := Try.checked) own_ started (by kernel_rfl) Try.func5
    (ChangeSpec.witness6 (enc := enc) (C := Try.checked) false ⟨#[], #[.agg #[.int .i64 0, .slice none 0 0], .slice none 0 0, .slice none 0 0, .slice none 0 0], []⟩ 8 (by kernel_rfl) (by kernel_rfl) (by kernel_rfl) (by kernel_rfl)) ?_
  intro W base args ds gs before hval0 hW hcnd _
  have hval : ∀ (j : Nat) t v, Try.f5.params[j]? = some t → args[j]? = some v → Value.okWide Try.prog W .any base t v := hval0
  have hW' := hW
  obtain ⟨p, q, hA0, hV, rfl, hfz, hnd⟩ := hW
  have hA : DataW.TrodAll enc Try.prog W 0 (fun _ => true) true Try.f5.params.toList args.toList ds p := hA0
  rw [Try.params5] at hA hval
  obtain ⟨rfl, rfl⟩ := trodVars_none hV
  obtain ⟨v0, v1, v2, v3, d0, d1, d2, d3, p0, p1, p2, p3, rfl, rfl, rfl, h0, h1, h2, h3⟩ := trodAll_four hA
  obtain ⟨s0, rfl, z0⟩ := okWide_struct Try.underlying24 (hval 0 24 v0 rfl rfl)
  obtain ⟨k0, hk0⟩ := h0
  obtain ⟨lr, a0, c0, l, e0, w0, g0, m0, at0, q0⟩ := open_prog hk0
  obtain rfl : s0 = #[.int .i64 lr, .slice a0 l.length c0] := Array.ext' (by simpa [Value.cells] using e0)
  obtain ⟨a1, n1, c1, rfl⟩ := okWide_slice Try.underlying25 (hval 1 25 v1 rfl rfl)
  obtain ⟨k1, hk1⟩ := h1
  obtain ⟨b1, r1, r, e1, g1, m1, at1⟩ := open_words Try.underlying25 Try.underlying37 (by kernel_rfl) hk1
  simp [Value.cells] at e1
  obtain ⟨rfl, rfl, rfl⟩ := e1
  obtain ⟨a2, n2, c2, rfl⟩ := okWide_slice Try.underlying25 (hval 2 25 v2 rfl rfl)
  obtain ⟨k2, hk2⟩ := h2
  obtain ⟨b2, r2, v, e2, g2, m2, at2⟩ := open_words Try.underlying25 Try.underlying37 (by kernel_rfl) hk2
  simp [Value.cells] at e2
  obtain ⟨rfl, rfl, rfl⟩ := e2
  obtain ⟨a3, n3, c3, rfl⟩ := okWide_slice Try.underlying25 (hval 3 25 v3 rfl rfl)
  obtain ⟨k3, hk3⟩ := h3
  obtain ⟨b3, r3, t, e3, g3, m3, at3⟩ := open_words Try.underlying25 Try.underlying37 (by kernel_rfl) hk3
  simp [Value.cells] at e3
  obtain ⟨rfl, rfl, rfl⟩ := e3
  unfold maxLen at *
  have walk := SweepBacks_calls lr a0 c0 l a1 c1 r a2 c2 v a3 c3 t W at0 at1 at2 at3
  exact (walk).mono fun e W' ⟨he, hb⟩ => ⟨_, he, law_post laid_ hW' rfl rfl rfl Try.underlying4 (by intro t ht; simp [Try.params5] at ht; rcases ht with rfl | rfl | rfl | rfl <;> exact ⟨by kernel_rfl, of_decide_eq_true (by kernel_rfl)⟩) hb⟩

theorem sweepBacks_holds : Rows.SweepBacksSaid :=
  OpenClaim.holds_of_wide 5 Try.f5 rfl rfl rfl rfl rfl rfl rfl ⟨rfl, rfl, rfl, rfl, rfl⟩ rfl rfl rfl rfl rfl (by kernel_rfl) Try.func5 (by kernel_rfl)
    (of_decide_eq_true (by kernel_rfl)) (by unfold Func.isWrapper; first | (rw [if_pos (by decide +kernel)]; kernel_rfl) | (rw [if_neg (by decide +kernel)]; exact ⟨rfl, rfl⟩))
    (fun os started H enc _ => sweepBacks_lifted os started H enc)
end Go.Proofs.Ytjfpnbnkfcgjcaa
