/- Chapter 20: right, place. -/
import Derived.Test.YtmmepffdjmpblaaGreatS20a
import Derived.IntWalk
namespace Go.Proofs.YtmmepffdjmpblaaGreat
set_option linter.unusedVariables false
set_option linter.unusedSimpArgs false
open Go.RowKit
theorem quietAL {P : Program} {f : FuncId} {args : Array Value} {w : World} {a n : Nat} {v : Value}
    (h : Calls P f args (w.drewN (a + n)) fun e w' => e = .returned v ∧ w.drewN (a + n) = w') :
    Calls P f args (w.drewN (a + n)) fun e w'' => e = .returned v ∧ ∃ m, w'' = w.drewN (a + m) :=
  h.mono fun _ _ ⟨he, hm⟩ => ⟨he, n, hm.symm⟩
theorem quietL {P : Program} {f : FuncId} {args : Array Value} {w : World} {n : Nat} {v : Value}
    (h : Calls P f args (w.drewN n) fun e w' => e = .returned v ∧ w.drewN n = w') : Calls P f args (w.drewN n) fun e w'' => e = .returned v ∧ ∃ m, w'' = w.drewN m :=
  h.mono fun _ _ ⟨he, hm⟩ => ⟨he, n, hm.symm⟩
/-- are rounds those of blocks? -/
def rgt (l : List OpD) : List Int → List Int → Bool
  | [], [] => true
  | b :: bs, r :: rs => decide (0 ≤ r) && decide (r < ((vAt l b).toNat : Int)) && rgt l bs rs
  | _, _ => false
theorem rgt_length {l : List OpD} : ∀ {bs rs : List Int}, rgt l bs rs = true → bs.length = rs.length
  | [], [], _ => rfl
  | b :: bs, r :: rs, h => by
    simp only [rgt, Bool.and_eq_true] at h
    simp [rgt_length h.2]
  | [], r :: rs, h => by simp [rgt] at h
  | b :: bs, [], h => by simp [rgt] at h
theorem vAt_stands {l : List OpD} {m : List Int} {o : Nat} {op fin : OpD} {b r : Fo} (h : Stands l m o (.rep op b fin r)) : vAt l (o : Int) = op.v := by
  unfold vAt
  simp only [Int.toNat_natCast]
  rw [h.rep.1]; rfl
theorem rgt_rok {l : List OpD} {m : List Int} : ∀ (t : List Int) (q : Fo) (o j : Nat) (rs : List Int), Stands l m o q → j ≤ q.size → Fo.pth o q j = t → (rgt l t rs = true ↔ q.rok j rs) := by
  intro t
  induction t with
  | nil =>
    intro q o j rs hs hj ht
    rw [q.rok_nil o j hj ht rs]
    cases rs <;> simp [rgt]
  | cons b t ih =>
    intro q o j rs hs hj ht
    obtain ⟨d, op, b', fin, r, e1, e2, e3, e4, e5, e6, e7, e8, e9, e10⟩ := Fo.pth_cons q o j b t hs ht
    rw [e10 rs, e1]
    cases rs with
    | nil => simp [rgt]
    | cons k rs =>
      simp only [rgt, Bool.and_eq_true, decide_eq_true_eq]
      rw [vAt_stands e3, ih b' (o + d + 1) (j - d - 1) rs e3.rep.2.2.2.2.2.2.1 (by omega) e6.symm]
      constructor
      · rintro ⟨⟨a1, a2⟩, a3⟩; exact ⟨k, rs, rfl, a1, a2, a3⟩
      · rintro ⟨k', t', h1, a1, a2, a3⟩
        injection h1 with h1 h2
        subst h1 h2
        exact ⟨⟨a1, a2⟩, a3⟩
theorem pth_in {l : List OpD} {m : List Int} : ∀ (t : List Int) (q : Fo) (o j : Nat), Stands l m o q → Fo.pth o q j = t → ∀ b ∈ t, 0 ≤ b ∧ b.toNat < l.length := by
  intro t
  induction t with
  | nil => intro q o j _ _ b hb; cases hb
  | cons b t ih =>
    intro q o j hs ht x hx
    obtain ⟨d, op, b', fin, r, e1, e2, e3, e4, e5, e6, e7, e8, e9, e10⟩ := Fo.pth_cons q o j b t hs ht
    rcases List.mem_cons.1 hx with rfl | hx
    · have := (List.getElem?_eq_some_iff.1 e3.rep.1).1
      exact ⟨by omega, by omega⟩
    · exact ih b' (o + d + 1) (j - d - 1) e3.rep.2.2.2.2.2.2.1 e6.symm x hx
end Go.Proofs.YtmmepffdjmpblaaGreat
