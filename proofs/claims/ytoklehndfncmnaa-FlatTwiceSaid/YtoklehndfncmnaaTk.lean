/- Plain facts on a machine's steps: how often an open block is still to come. No program is named here. -/
import Derived.Test.YtoklehndfncmnaaRn
namespace Go.Proofs.Ytoklehndfncmnaa
set_option linter.unusedVariables false
set_option linter.unusedSimpArgs false
open Go.RowKit

/-- Whatever each round's steps are like, all are like, below a bound. -/
theorem trR_all {b : List UInt64 → List Tk} {e : Nat} {fin : OpD} {to : Int} {st : List UInt64} {P : Tk → Prop} (N : Nat) (hb : ∀ k : Nat, ∀ x ∈ b (st ++ [UInt64.ofNat (k + 1)]), P x) (he : ∀ k : Nat, k < N → P ⟨e, st ++ [UInt64.ofNat (k + 1)], fin, to⟩) : ∀ k, k ≤ N → ∀ x ∈ trR b e fin to st k, P x := by
  intro k
  induction k with
  | zero => intro _ x hx; cases hx
  | succ k ih =>
    intro hk x hx
    unfold trR at hx
    rcases List.mem_append.1 hx with hx | hx
    · exact hb k x hx
    · rcases List.mem_cons.1 hx with rfl | hx
      · exact he k (by omega)
      · exact ih (by omega) x hx
/-- A block that ends has been counted. -/
theorem Fo.tr_pos (f : Fo) (hf : f.ok) : ∀ (o : Nat) (st : List UInt64), ∀ x ∈ f.tr o st, x.op.kind = 0 → 1 ≤ (x.st.getLast?.getD 0).toNat := by
  induction f with
  | nil => intro o st x hx; cases hx
  | leaf op r ih =>
    intro o st x hx h0
    obtain ⟨h1, h2, h3⟩ := hf
    rcases List.mem_cons.1 hx with rfl | hx
    · simp at h0; omega
    · exact ih h3 _ _ x hx h0
  | rep op b fin r ihb ihr =>
    intro o st x hx h0
    obtain ⟨h1, h2, h3, h4⟩ := hf
    rcases List.mem_cons.1 hx with rfl | hx
    · simp at h0; omega
    · rcases List.mem_append.1 hx with hx | hx
      · refine trR_all (P := fun x => x.op.kind = 0 → 1 ≤ (x.st.getLast?.getD 0).toNat) op.v.toNat (fun k y hy => ihb h2 _ _ y hy) (fun k hk _ => ?_) _ (Nat.le_refl _) x hx h0
        have := op.v.toNat_lt
        simp only [List.getLast?_append, List.getLast?_singleton, Option.some_or, Option.getD_some]
        rw [toNat_ofNat' (by omega)]
        omega
      · exact ihr h4 _ _ x hx h0
theorem Good.tk_pos {regs : Int} {f : Fo} (g : Good regs f) : ∀ x ∈ f.steps, x.op.kind = 0 → 1 ≤ (x.st.getLast?.getD 0).toNat := f.bare.tr_pos (f.bare_ok g.ok) 0 []
end Go.Proofs.Ytoklehndfncmnaa
