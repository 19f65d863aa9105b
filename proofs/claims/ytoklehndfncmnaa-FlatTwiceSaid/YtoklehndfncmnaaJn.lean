/- Plain facts on programs that are joined, or put into a block. No program is named here. -/
import Derived.Test.YtoklehndfncmnaaRn
namespace Go.Proofs.Ytoklehndfncmnaa
set_option linter.unusedVariables false
set_option linter.unusedSimpArgs false
open Go.RowKit

theorem Fo.app_flat' (f g : Fo) : (f.app g).flat = f.flat ++ g.flat := by
  induction f with
  | nil => rfl
  | leaf op r ih => simp [app, flat, ih]
  | rep op b fin r _ ih => simp [app, flat, ih]
theorem Fo.app_ok' (f g : Fo) (hf : f.ok) (hg : g.ok) : (f.app g).ok := by
  induction f with
  | nil => exact hg
  | leaf op r ih => exact ⟨hf.1, hf.2.1, ih hf.2.2⟩
  | rep op b fin r _ ih => exact ⟨hf.1, hf.2.1, hf.2.2.1, ih hf.2.2.2⟩
theorem Good.app {regs : Int} {f g : Fo} (hf : Good regs f) (hg : Good regs g) (hs : f.size + g.size ≤ 4096) (hw : f.wr + g.wr ≤ 65536) : Good regs (f.app g) where
  ok := f.app_ok' g hf.ok hg.ok
  len := by unfold Fo.size at *; rw [Fo.app_flat', List.length_append]; exact hs
  right := by rw [Fo.app_flat']; intro x hx; rcases List.mem_append.1 hx with h | h; exact hf.right x h; exact hg.right x h
  r1 := hf.r1
  r2 := hf.r2
  off := by rw [Fo.app_flat']; intro x hx; rcases List.mem_append.1 hx with h | h; exact hf.off x h; exact hg.off x h
  deep := by rw [Fo.dp_app]; have := hf.deep; have := hg.deep; omega
  may := by rw [Fo.may_app, hf.may, hg.may]; rfl
  few := by rw [Fo.wr_app]; exact hw
def wrapF (v : UInt64) (f : Fo) : Fo := .rep ⟨7, 0, 0, 0, v⟩ f ⟨0, 0, 0, 0, 0⟩ .nil
theorem wrapF_flat (v : UInt64) (f : Fo) : (wrapF v f).flat = ⟨7, 0, 0, 0, v⟩ :: (f.flat ++ [⟨0, 0, 0, 0, 0⟩]) := rfl
theorem wrapF_wr (v : UInt64) (f : Fo) : (wrapF v f).wr = f.wr * v.toNat := by simp [wrapF, Fo.wr]
theorem wrapF_unroll (v : UInt64) (f : Fo) : (wrapF v f).unroll = (List.replicate v.toNat f.unroll).flatten := by simp [wrapF, Fo.unroll]
theorem wrapF_ok (v : UInt64) {f : Fo} (hf : f.ok) : (wrapF v f).ok := ⟨rfl, hf, rfl, trivial⟩
theorem wrapF_right {regs : Int} (v : UInt64) {f : Fo} (g : Good regs f) : ∀ x ∈ (wrapF v f).flat, rightB x = true ∧ offB regs x = false := by
  intro x hx
  rw [wrapF_flat] at hx
  simp only [List.mem_cons, List.mem_append, List.not_mem_nil, or_false] at hx
  rcases hx with rfl | hx | rfl
  · exact ⟨by simp [rightB, regB, dOf, aOf, bOf, vOf], by simp [offB, dOf, aOf, bOf]⟩
  · exact ⟨g.right x hx, g.off x hx⟩
  · exact ⟨by simp [rightB, regB, dOf, aOf, bOf, vOf], by simp [offB, dOf, aOf, bOf]⟩
theorem Good.wrap {regs : Int} {f : Fo} (g : Good regs f) (v : UInt64) (hs : f.size + 2 ≤ 4096) (hw : f.wr * v.toNat ≤ 65536) (hd : f.dp + 1 ≤ 8) : Good regs (wrapF v f) where
  ok := wrapF_ok v g.ok
  len := by unfold Fo.size at *; rw [wrapF_flat]; simp; omega
  right := fun x hx => (wrapF_right v g x hx).1
  r1 := g.r1
  r2 := g.r2
  off := fun x hx => (wrapF_right v g x hx).2
  deep := by simp only [wrapF, Fo.dp]; omega
  may := by simp [wrapF, Fo.may, g.may, g.few, hw]
  few := by rw [wrapF_wr]; exact hw
theorem wrap_deep {regs : Int} {f : Fo} (g : Good regs f) (v : UInt64) (hs : f.size + 2 ≤ 4096) (hd : ¬ f.dp + 1 ≤ 8) : checkS regs (wrapF v f).flat = 8 := by
  unfold checkS
  rw [if_pos, if_pos, if_neg]
  · rw [deepL_flat _ (wrapF_ok v g.ok)]; simp only [wrapF, Fo.dp]; omega
  · unfold regsB
    simp only [Bool.and_eq_true, decide_eq_true_eq, List.all_eq_true, Bool.not_eq_true']
    exact ⟨⟨g.r1, g.r2⟩, fun x hx => (wrapF_right v g x hx).2⟩
  · unfold formB
    simp only [Bool.and_eq_true, decide_eq_true_eq, List.all_eq_true]
    exact ⟨⟨by unfold Fo.size at hs; rw [wrapF_flat]; simp; omega, well_of_flat _ (wrapF_ok v g.ok)⟩, fun x hx => (wrapF_right v g x hx).1⟩
end Go.Proofs.Ytoklehndfncmnaa
