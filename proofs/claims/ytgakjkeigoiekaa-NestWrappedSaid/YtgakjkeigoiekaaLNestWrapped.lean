/- Proved: the law NestWrapped answers true, whatever it is given, and leaves its arguments as they were. No condition. -/
import Derived.Test.YtgakjkeigoiekaaOpen2
import Derived.Test.YtgakjkeigoiekaaN8n
namespace Go.Proofs.Ytgakjkeigoiekaa
set_option linter.unusedVariables false
set_option linter.unusedSimpArgs false
open Go.ChangeShapes Go.WideShapes Go.ChangeAt Go.RowKit

set_option maxRecDepth 100000 in
theorem nestWrapped_lifted (os : Os) (started : os.Started) (H : Type) (enc : TypeId × Value → H) :
    ReturnsInHanded {} Try.checked os 9 .any (Rows.nestWrappedSpec.pre6 enc Try.prog Try.f9 Rows.nestWrappedRow.domain false) (Rows.nestWrappedSpec.post enc Try.prog Try.f9 false true false false) := by
  refine returnsInHanded_of_change (C := Try.checked) own_ started (by kernel_rfl) Try.func9
    (ChangeSpec.witness6 (enc := enc) (C := Try.checked) false ⟨#[], #[.slice none 0 0, .int .u64 0], []⟩ 8 (by kernel_rfl) (by kernel_rfl) (by kernel_rfl) (by kernel_rfl)) ?_
  intro W base args ds gs before hval0 hW hcnd _
  have hval : ∀ (j : Nat) t v, Try.f9.params[j]? = some t → args[j]? = some v → Value.okWide Try.prog W .any base t v := hval0
  have hW' := hW
  obtain ⟨p, q, hA0, hV, rfl, hfz, hnd⟩ := hW
  have hA : DataW.TrodAll enc Try.prog W 0 (fun _ => true) true Try.f9.params.toList args.toList ds p := hA0
  rw [Try.params9] at hA hval
  obtain ⟨rfl, rfl⟩ := trodVars_none hV
  obtain ⟨v0, v1, d0, d1, p0, p1, rfl, rfl, rfl, h0, h1⟩ := trodAll_two hA
  obtain ⟨a0, n0, c0, rfl⟩ := okWide_slice Try.underlying40 (hval 0 40 v0 rfl rfl)
  obtain ⟨k0, hk0⟩ := h0
  obtain ⟨b0, r0, l, e0, g0, m0, at0, q0⟩ := open_ops hk0
  simp [Value.cells] at e0
  obtain ⟨rfl, rfl, rfl⟩ := e0
  obtain ⟨z1, rfl, rfl, rfl, w1⟩ := open_int Try.underlying38 (hval 1 38 v1 rfl rfl) h1
  have b1 := bounds_u64 w1
  obtain ⟨v, rfl⟩ : ∃ x : UInt64, z1 = (x.toNat : Int) := ⟨UInt64.ofNat z1.toNat, by rw [UInt64.toNat_ofNat', Nat.mod_eq_of_lt (by omega)]; omega⟩
  unfold maxLen at *
  have walk := NestWrapped_calls a0 c0 l v W at0
  exact (walk).mono fun e W' ⟨he, hb⟩ => ⟨_, he, law_post laid_ hW' rfl rfl rfl Try.underlying4 (by intro t ht; simp [Try.params9] at ht; rcases ht with rfl | rfl | rfl | rfl <;> exact ⟨by kernel_rfl, of_decide_eq_true (by kernel_rfl)⟩) hb⟩

theorem nestWrapped_holds : Rows.NestWrappedSaid :=
  OpenClaim.holds_of_wide 9 Try.f9 rfl rfl rfl rfl rfl rfl rfl ⟨rfl, rfl, rfl, rfl, rfl⟩ rfl rfl rfl rfl rfl (by kernel_rfl) Try.func9 (by kernel_rfl)
    (of_decide_eq_true (by kernel_rfl)) (by unfold Func.isWrapper; first | (rw [if_pos (by decide +kernel)]; kernel_rfl) | (rw [if_neg (by decide +kernel)]; exact ⟨rfl, rfl⟩))
    (fun os started H enc _ => nestWrapped_lifted os started H enc)
end Go.Proofs.Ytgakjkeigoiekaa
