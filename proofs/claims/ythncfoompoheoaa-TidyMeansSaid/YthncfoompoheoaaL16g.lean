/- Chapter 16: a program's operations named by their places, unrolled. -/
import Derived.Test.YthncfoompoheoaaL16f
namespace Go.Proofs.Ythncfoompoheoaa
set_option linter.unusedVariables false
set_option linter.unusedSimpArgs false
open Go.RowKit Go.Shelf
def Fo.named : Nat → Fo → Fo
  | _, .nil => .nil
  | o, .leaf op r => .leaf (nameO o op) (named (o + 1) r)
  | o, .rep op b fin r => .rep op (named (o + 1) b) fin (named (o + b.size + 2) r)
def nameP (i : Nat) : OpD := ⟨5, 0, 0, 0, UInt64.ofNat i⟩
theorem nameO_leaf (i : Nat) {x : OpD} (h1 : 1 ≤ x.kind) (h2 : x.kind ≤ 6) : nameO i x = nameP i := by unfold nameO; rw [if_pos (by omega)]; rfl
theorem nameO_not (i : Nat) {x : OpD} (h : x.kind = 7 ∨ x.kind = 0) : nameO i x = x := by unfold nameO; rw [if_neg (by omega)]
theorem nameF_append (a b : List OpD) : ∀ i, nameF i (a ++ b) = nameF i a ++ nameF (i + a.length) b := by
  induction a with
  | nil => intro i; simp [nameF]
  | cons x r ih => intro i; show nameO i x :: nameF (i + 1) (r ++ b) = _; rw [ih]; simp only [nameF, List.cons_append, List.length_cons]; rw [show i + 1 + r.length = i + (r.length + 1) by omega]
theorem Fo.named_flat (f : Fo) (hf : f.ok) : ∀ o, (f.named o).flat = nameF o f.flat := by
  induction f with
  | nil => intro o; rfl
  | leaf op r ih => intro o; show nameO o op :: (r.named (o + 1)).flat = _; rw [ih hf.2.2]; rfl
  | rep op b fin r ihb ihr =>
    intro o
    obtain ⟨h1, h2, h3, h4⟩ := hf
    show op :: ((b.named (o + 1)).flat ++ fin :: (r.named (o + b.size + 2)).flat) = nameF o (op :: (b.flat ++ fin :: r.flat))
    rw [ihb h2, ihr h4]
    show _ = nameO o op :: nameF (o + 1) (b.flat ++ fin :: r.flat)
    rw [nameF_append, nameO_not o (.inl h1)]
    show _ = op :: (nameF (o + 1) b.flat ++ nameO (o + 1 + b.flat.length) fin :: nameF (o + 1 + b.flat.length + 1) r.flat)
    rw [nameO_not _ (.inr h3), show o + b.size + 2 = o + 1 + b.flat.length + 1 by unfold Fo.size; omega]
theorem Fo.named_ok (f : Fo) (hf : f.ok) : ∀ o, (f.named o).ok := by
  induction f with
  | nil => intro o; trivial
  | leaf op r ih => intro o; refine ⟨?_, ?_, ih hf.2.2 _⟩ <;> rw [nameO_leaf o hf.1 hf.2.1] <;> simp [nameP]
  | rep op b fin r ihb ihr => intro o; exact ⟨hf.1, ihb hf.2.1 _, hf.2.2.1, ihr hf.2.2.2 _⟩
theorem Fo.named_wr (f : Fo) : ∀ o, (f.named o).wr = f.wr := by
  induction f with
  | nil => intro o; rfl
  | leaf op r ih => intro o; simp only [named, wr, ih]
  | rep op b fin r ihb ihr => intro o; simp only [named, wr, ihb, ihr]
theorem Fo.named_may (f : Fo) : ∀ o, (f.named o).may = f.may := by
  induction f with
  | nil => intro o; rfl
  | leaf op r ih => intro o; simp only [named, may, ih]
  | rep op b fin r ihb ihr => intro o; simp only [named, may, ihb, ihr, Fo.named_wr]
theorem Fo.named_dp (f : Fo) : ∀ o, (f.named o).dp = f.dp := by
  induction f with
  | nil => intro o; rfl
  | leaf op r ih => intro o; simp only [named, dp, ih]
  | rep op b fin r ihb ihr => intro o; simp only [named, dp, ihb, ihr]
theorem Fo.named_unroll (f : Fo) (hf : f.ok) : ∀ o, (f.named o).unroll = (f.pls o).map nameP := by
  induction f with
  | nil => intro o; rfl
  | leaf op r ih => intro o; simp only [named, unroll, pls, List.map_cons, ih hf.2.2, nameO_leaf o hf.1 hf.2.1]
  | rep op b fin r ihb ihr =>
    intro o
    simp only [named, unroll, pls, List.map_append, ihb hf.2.1, ihr hf.2.2.2]
    congr 1
    generalize op.v.toNat = n
    induction n with
    | zero => rfl
    | succ n ih => simp only [List.replicate_succ, List.flatten_cons, List.map_append, ih]
theorem nameF_mem (l : List OpD) : ∀ (i : Nat) (x : OpD), x ∈ nameF i l → (∃ j, x = nameP j) ∨ (x ∈ l ∧ (x.kind = 7 ∨ x.kind = 0)) := by
  induction l with
  | nil => intro i x h; cases h
  | cons y r ih =>
    intro i x h
    rcases List.mem_cons.1 h with rfl | h
    · by_cases hy : y.kind ≠ 7 ∧ y.kind ≠ 0
      · left; exact ⟨i, by unfold nameO; rw [if_pos hy]; rfl⟩
      · have e : nameO i y = y := by unfold nameO; rw [if_neg hy]
        right; rw [e]; exact ⟨by simp, by omega⟩
    · rcases ih _ _ h with h | ⟨h1, h2⟩
      · exact .inl h
      · exact .inr ⟨by simp [h1], h2⟩
theorem Good.named {regs : Int} {f : Fo} (g : Good regs f) : Good 1 (f.named 0) where
  ok := f.named_ok g.ok 0
  len := by unfold Fo.size; rw [f.named_flat g.ok, nameF_length]; exact g.len
  right := by
    intro x hx
    rw [f.named_flat g.ok] at hx
    rcases nameF_mem _ _ _ hx with ⟨j, rfl⟩ | ⟨h1, h2⟩
    · simp [rightB, nameP, regB, dOf, aOf, bOf, vOf]
    · exact g.right x h1
  r1 := by decide
  r2 := by decide
  off := by
    intro x hx
    rw [f.named_flat g.ok] at hx
    rcases nameF_mem _ _ _ hx with ⟨j, rfl⟩ | ⟨h1, h2⟩
    · simp [offB, nameP, dOf, aOf, bOf]
    · rcases h2 with h2 | h2 <;> simp [offB, h2, dOf, aOf, bOf]
  deep := by rw [f.named_dp]; exact g.deep
  may := by rw [f.named_may]; exact g.may
  few := by rw [f.named_wr]; exact g.few
theorem named_unr {regs : Int} {f : Fo} (g : Good regs f) : unrS 1 (nameF 0 f.flat) = (f.pls 0).map nameP ∧ checkS 1 (nameF 0 f.flat) = 0 := by
  rw [← f.named_flat g.ok 0]
  exact ⟨by rw [unrS_good g.named, f.named_unroll g.ok], g.named.check⟩
end Go.Proofs.Ythncfoompoheoaa
