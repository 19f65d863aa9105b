/- Chapter 20: the plan of a program is made; Place, At. -/
import Derived.Test.YtmmepffdjmpblaaGreatS20b
namespace Go.Proofs.YtmmepffdjmpblaaGreat
set_option linter.unusedVariables false
set_option linter.unusedSimpArgs false
open Go.RowKit
theorem around_good {f : Fo} (hf : f.ok) {i : Nat} {x : OpD} (hx : f.flat[i]? = some x) : aroundS f.flat (i : Int) = (encl 0 f i, 0) := by
  have hi := (List.getElem?_eq_some_iff.1 hx).1
  unfold aroundS
  rw [if_pos (well_of_flat f hf), if_neg (by omega)]
  unfold arAt
  rw [if_pos (by omega)]
  simp only [Int.toNat_natCast, hx]
  have := encl_stack f hf 0 [] i x hx
  rw [show stAt f.flat i = stF 0 [] (f.flat.take i) from rfl, this]
  rfl
theorem around_out {f : Fo} (hf : f.ok) {i : Int} (hi : i < 0 ∨ (f.flat.length : Int) ≤ i) : aroundS f.flat i = ([], 2) := by
  unfold aroundS
  rw [if_pos (well_of_flat f hf), if_pos hi]
/-- does the operation of a place write? -/
def wAt (l : List OpD) (i : Int) : Bool := match l[i.toNat]? with | some x => dOf x.kind | none => false
/-- which number a write has -/
noncomputable def placeS (regs : Int) (l : List OpD) (i : Int) (rs : List Int) : Int × Int :=
  if checkS regs l ≠ 0 then (0, checkS regs l) else if i < 0 ∨ (l.length : Int) ≤ i then (0, 2) else if wAt l i = true ∧ rgt l (aroundS l i).1 rs = true then ((fo l).plc i.toNat rs, 0) else (0, 2)
theorem encl_length (f : Fo) : ∀ o j, (encl o f j).length ≤ f.size := by
  induction f with
  | nil => intro o j; exact Nat.zero_le _
  | leaf op r ih => intro o j; rw [Fo.size_leaf, encl]; split <;> first | simp | (have := ih (o + 1) (j - 1); omega)
  | rep op b fin r ihb ihr =>
    intro o j
    rw [Fo.size_rep, encl]
    split
    · simp
    · split
      · have := ihb (o + 1) (j - 1); rw [List.length_cons]; omega
      · split
        · simp
        · have := ihr (o + b.size + 2) (j - b.size - 2); omega
end Go.Proofs.YtmmepffdjmpblaaGreat
