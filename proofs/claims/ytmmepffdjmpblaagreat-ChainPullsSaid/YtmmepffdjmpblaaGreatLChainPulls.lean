/- Proved: the law ChainPulls answers true, whatever it is given, and leaves its arguments as they were. No condition. -/
import Derived.Test.YtmmepffdjmpblaaGreatOpen5
import Derived.Test.YtmmepffdjmpblaaGreatC23r
import Derived.Carry
namespace Go.Proofs.YtmmepffdjmpblaaGreat
set_option linter.unusedVariables false
set_option linter.unusedSimpArgs false
open Go.ChangeShapes Go.WideShapes Go.ChangeAt Go.RowKit

set_option maxRecDepth 100000 in
theorem chainPulls_lifted (os : Os) (started : os.Started) (H : Type) (enc : TypeId × Value → H) :
    ReturnsInHanded {} Tryz.checked os 3 .any (Rows.chainPullsSpec.pre6 enc Tryz.prog Tryz.f3 Rows.chainPullsRow.domain false) (Rows.chainPullsSpec.post enc Tryz.prog Tryz.f3 false true false false) := by
  refine returnsInHanded_of_change (C := Tryz.checked) own_ started (by kernel_rfl) Tryz.func3
    (ChangeSpec.witness6 (enc := enc) (C := Tryz.checked) false ⟨#[], #[.agg #[.int .i64 0, .slice none 0 0, .int .i64 0, .slice none 0 0, .int .i64 0, .slice none 0 0], .int .i64 0, .slice none 0 0, .slice none 0 0], []⟩ 8 (by kernel_rfl) (by kernel_rfl) (by kernel_rfl) (by kernel_rfl)) ?_
  intro W base args ds gs before hval0 hW hcnd _
  have hval : ∀ (j : Nat) t v, Tryz.f3.params[j]? = some t → args[j]? = some v → Value.okWide Tryz.prog W .any base t v := hval0
  have hW' := hW
  obtain ⟨p, q, hA0, hV, rfl, hfz, hnd⟩ := hW
  have hA : DataW.TrodAll enc Tryz.prog W 0 (fun _ => true) true Tryz.f3.params.toList args.toList ds p := hA0
  rw [Tryz.params3] at hA hval
  obtain ⟨rfl, rfl⟩ := trodVars_none hV
  obtain ⟨v0, v1, v2, v3, d0, d1, d2, d3, p0, p1, p2, p3, rfl, rfl, rfl, h0, h1, h2, h3⟩ := trodAll_four hA
  obtain ⟨s0, rfl, z0⟩ := okWide_struct Tryz.underlying27 (hval 0 27 v0 rfl rfl)
  obtain ⟨k0, hk0⟩ := h0
  obtain ⟨cr1, cr2, cx, ca, cb, cta, cc, cd, ctc, cl, cm, cth, e0, w0, x0, b0, atp0, atq0, att0⟩ := open_chain hk0
  obtain rfl : s0 = #[.int .i64 cr1, .slice ca cl.length cc, .int .i64 cr2, .slice cb cm.length cd, .int .i64 cx, .slice cta cth.length ctc] := Array.ext' (by simpa [Value.cells] using e0)
  obtain ⟨t, rfl, rfl, rfl, w1⟩ := open_int Tryz.underlying3 (hval 1 3 v1 rfl rfl) h1
  have b1 := bounds_i64 w1
  obtain ⟨a2, n2, c2, rfl⟩ := okWide_slice Tryz.underlying25 (hval 2 25 v2 rfl rfl)
  obtain ⟨k2, hk2⟩ := h2
  obtain ⟨b2, r2, x, e2, g2, m2, at2⟩ := open_words Tryz.underlying25 Tryz.underlying50 (by kernel_rfl) hk2
  simp [Value.cells] at e2
  obtain ⟨rfl, rfl, rfl⟩ := e2
  obtain ⟨a3, n3, c3, rfl⟩ := okWide_slice Tryz.underlying25 (hval 3 25 v3 rfl rfl)
  obtain ⟨k3, hk3⟩ := h3
  obtain ⟨b3, r3, y, e3, g3, m3, at3⟩ := open_words Tryz.underlying25 Tryz.underlying50 (by kernel_rfl) hk3
  simp [Value.cells] at e3
  obtain ⟨rfl, rfl, rfl⟩ := e3
  unfold maxLen at *
  have walk := ChainPulls_calls ⟨⟨cr1, ca, cc, cl⟩, ⟨cr2, cb, cd, cm⟩, cx, cth⟩ cta ctc t a2 x.length c2 x a3 y.length c3 y W atp0 atq0 att0 at2 at3 rfl (by omega) rfl b0
  exact (walk).mono fun e W' ⟨he, hb⟩ => ⟨_, he, law_post laid_ hW' rfl rfl rfl Tryz.underlying4 (by intro t ht; simp [Tryz.params3] at ht; rcases ht with rfl | rfl | rfl | rfl | rfl <;> exact ⟨by kernel_rfl, of_decide_eq_true (by kernel_rfl)⟩) hb⟩

theorem chainPulls_holds : Rows.ChainPullsSaid :=
  OpenClaim.holds_of_wide 3 Tryz.f3 rfl rfl rfl rfl rfl rfl rfl ⟨rfl, rfl, rfl, rfl, rfl⟩ rfl rfl rfl rfl rfl (by kernel_rfl) Tryz.func3 (by kernel_rfl)
    (of_decide_eq_true (by kernel_rfl)) (by unfold Func.isWrapper; first | (rw [if_pos (by decide +kernel)]; kernel_rfl) | (rw [if_neg (by decide +kernel)]; exact ⟨rfl, rfl⟩))
    (fun os started H enc _ => chainPulls_lifted os started H enc)
end Go.Proofs.YtmmepffdjmpblaaGreat
