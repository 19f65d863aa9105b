/- Proved: the law ModelNone answers true, whatever it is given, and leaves its arguments as they were. No condition. -/
import Derived.Test.YtcamcnahkdiefaaGreatYMNab
import Derived.Test.YtcamcnahkdiefaaGreatYMNar
namespace Go.Proofs.YtcamcnahkdiefaaGreat
set_option linter.unusedVariables false
set_option linter.unusedSimpArgs false
open Go.ChangeShapes Go.WideShapes Go.ChangeAt Go.RowKit

set_option maxRecDepth 100000 in
theorem modelNone_lifted (os : Os) (started : os.Started) (H : Type) (enc : TypeId × Value → H) :
    ReturnsInHanded {} Tryz.checked os 9 .any (Rows.modelNoneSpec.pre6 enc Tryz.prog Tryz.f9 Rows.modelNoneRow.domain false) (Rows.modelNoneSpec.post enc Tryz.prog Tryz.f9 false true false false) := by
  refine returnsInHanded_of_change (C := Tryz.checked) own_ started (by kernel_rfl) Tryz.func9
    (ChangeSpec.witness6 (enc := enc) (C := Tryz.checked) false ⟨#[], #[.agg #[.int .i64 0, .slice none 0 0, .int .i64 0, .slice none 0 0, .int .i64 0, .slice none 0 0], .slice none 0 0], []⟩ 8 (by kernel_rfl) (by kernel_rfl) (by kernel_rfl) (by kernel_rfl)) ?_
  intro W base args ds gs before hval0 hW hcnd _
  have hval : ∀ (j : Nat) t v, Tryz.f9.params[j]? = some t → args[j]? = some v → Value.okWide Tryz.prog W .any base t v := hval0
  have hW' := hW
  obtain ⟨p, q, hA0, hV, rfl, hfz, hnd⟩ := hW
  have hA : DataW.TrodAll enc Tryz.prog W 0 (fun _ => true) true Tryz.f9.params.toList args.toList ds p := hA0
  rw [Tryz.params9] at hA hval
  obtain ⟨rfl, rfl⟩ := trodVars_none hV
  obtain ⟨v0, v1, d0, d1, p0, p1, rfl, rfl, rfl, h0, h1⟩ := trodAll_two hA
  obtain ⟨s0, rfl, z0⟩ := okWide_struct Tryz.underlying48 (hval 0 48 v0 rfl rfl)
  obtain ⟨k0, hk0⟩ := h0
  obtain ⟨cr1, cr2, cx, ca, cb, cta, cc, cd, ctc, cl, cm, cth, e0, w0, x0, b0, atp0, atq0, att0⟩ := open_chain hk0
  obtain rfl : s0 = #[.int .i64 cr1, .slice ca cl.length cc, .int .i64 cr2, .slice cb cm.length cd, .int .i64 cx, .slice cta cth.length ctc] := Array.ext' (by simpa [Value.cells] using e0)
  obtain ⟨a1, n1, c1, rfl⟩ := okWide_slice Tryz.underlying46 (hval 1 46 v1 rfl rfl)
  obtain ⟨k1, hk1⟩ := h1
  obtain ⟨b1, r1, x, e1, g1, m1, at1⟩ := open_words Tryz.underlying46 Tryz.underlying50 (by kernel_rfl) hk1
  simp [Value.cells] at e1
  obtain ⟨rfl, rfl, rfl⟩ := e1
  unfold maxLen at *
  have walk := ModelNone_calls ⟨⟨cr1, ca, cc, cl⟩, ⟨cr2, cb, cd, cm⟩, cx, cth⟩ cta ctc a1 x.length c1 x W atp0 atq0 att0 at1 rfl (by omega) b0 (by omega)
  exact (walk).mono fun e W' ⟨he, hb⟩ => ⟨_, he, law_post laid_ hW' rfl rfl rfl Tryz.underlying4 (by intro t ht; simp [Tryz.params9] at ht; rcases ht with rfl | rfl | rfl | rfl | rfl <;> exact ⟨by kernel_rfl, of_decide_eq_true (by kernel_rfl)⟩) hb⟩

theorem modelNone_holds : Rows.ModelNoneSaid :=
  OpenClaim.holds_of_wide 9 Tryz.f9 rfl rfl rfl rfl rfl rfl rfl ⟨rfl, rfl, rfl, rfl, rfl⟩ rfl rfl rfl rfl rfl (by kernel_rfl) Tryz.func9 (by kernel_rfl)
    (of_decide_eq_true (by kernel_rfl)) (by unfold Func.isWrapper; first | (rw [if_pos (by decide +kernel)]; kernel_rfl) | (rw [if_neg (by decide +kernel)]; exact ⟨rfl, rfl⟩))
    (fun os started H enc _ => modelNone_lifted os started H enc)
end Go.Proofs.YtcamcnahkdiefaaGreat
