/- Plain facts on derivatives: tangents, adjoints, and that they are each other's transposed. No program is named here. -/
import Derived.Test.YtmmepffdjmpblaaGreatBk
namespace Go.Proofs.YtmmepffdjmpblaaGreat
set_option linter.unusedVariables false
set_option linter.unusedSimpArgs false
open Go.RowKit

theorem getR_nat (r : List UInt64) (i : Nat) : getR r (i : Int) = (r[i]?).getD 0 := rfl
theorem getR_set (r : List UInt64) (i j : Int) (v : UInt64) (hi : i.toNat < r.length) : getR (r.set i.toNat v) j = if i.toNat = j.toNat then v else getR r j := by
  unfold getR
  rw [List.getElem?_set]
  by_cases h : i.toNat = j.toNat
  · rw [if_pos h, if_pos h, if_pos (by omega)]; rfl
  · rw [if_neg h, if_neg h]
/-- A tangent's step. -/
def tanU (x : OpD) (r t : List UInt64) : UInt64 := (partU x (getR r x.a) (getR r x.b)).1 * getR t x.a + (partU x (getR r x.a) (getR r x.b)).2 * getR t x.b
def stepT (x : OpD) (r t : List UInt64) : List UInt64 := t.set x.d.toNat (tanU x r t)
def runT : List OpD → List UInt64 → List UInt64 → List UInt64
  | [], _, t => t
  | x :: l, r, t => runT l (stepR r x) (stepT x r t)
theorem stepT_length (x : OpD) (r t : List UInt64) : (stepT x r t).length = t.length := by simp [stepT]
theorem runT_length (l : List OpD) (r t : List UInt64) : (runT l r t).length = t.length := by
  induction l generalizing r t with
  | nil => rfl
  | cons x l ih => show (runT l _ _).length = _; rw [ih, stepT_length]
theorem runT_append (a b : List OpD) (r t : List UInt64) : runT (a ++ b) r t = runT b (runR a r) (runT a r t) := by
  induction a generalizing r t with
  | nil => rfl
  | cons x l ih => exact ih _ _
/-- An adjoint's step back; `r`: the registers ahead of the write. -/
def addR (l : List UInt64) (i : Int) (v : UInt64) : List UInt64 := l.set i.toNat (getR l i + v)
def takeA (x : OpD) (r w : List UInt64) : List UInt64 :=
  addR (addR (w.set x.d.toNat 0) x.a ((partU x (getR r x.a) (getR r x.b)).1 * getR w x.d)) x.b ((partU x (getR r x.a) (getR r x.b)).2 * getR w x.d)
def backA : List OpD → List UInt64 → List UInt64 → List UInt64
  | [], _, w => w
  | x :: l, r, w => takeA x r (backA l (stepR r x) w)
theorem takeA_length (x : OpD) (r w : List UInt64) : (takeA x r w).length = w.length := by simp [takeA, addR]
theorem backA_length (l : List OpD) (r w : List UInt64) : (backA l r w).length = w.length := by
  induction l generalizing r w with
  | nil => rfl
  | cons x l ih => show (takeA x r (backA l _ w)).length = _; rw [takeA_length, ih]
theorem backA_append (a b : List OpD) (r w : List UInt64) : backA (a ++ b) r w = backA a r (backA b (runR a r) w) := by
  induction a generalizing r w with
  | nil => rfl
  | cons x l ih => show takeA x r (backA (l ++ b) _ w) = takeA x r _; rw [ih]; rfl

/-! ### The product of two rows -/
def dotU : List UInt64 → List UInt64 → UInt64
  | x :: a, y :: b => x * y + dotU a b
  | _, _ => 0
theorem dot_set_left (a b : List UInt64) (i : Nat) (v : UInt64) (h : a.length = b.length) (hi : i < a.length) : dotU (a.set i v) b = dotU a b + (v - (a[i]?).getD 0) * (b[i]?).getD 0 := by
  induction a generalizing b i with
  | nil => simp at hi
  | cons x a ih =>
    cases b with
    | nil => simp at h
    | cons y b =>
      cases i with
      | zero => simp [dotU]; grind
      | succ i =>
        simp only [List.set_cons_succ, dotU, List.getElem?_cons_succ]
        rw [ih b i (by simpa using h) (by simpa using hi)]
        grind
theorem dot_comm (a b : List UInt64) : dotU a b = dotU b a := by
  induction a generalizing b with
  | nil => cases b <;> rfl
  | cons x a ih =>
    cases b with
    | nil => rfl
    | cons y b => simp only [dotU]; rw [ih b]; grind
theorem dot_set_right (a b : List UInt64) (i : Nat) (v : UInt64) (h : a.length = b.length) (hi : i < a.length) : dotU a (b.set i v) = dotU a b + (v - (b[i]?).getD 0) * (a[i]?).getD 0 := by
  rw [dot_comm, dot_set_left b a i v h.symm (by omega), dot_comm]
theorem dot_take (x : OpD) (regs : Int) (r w t : List UInt64) (hx : InR regs x) (hw : (w.length : Int) = regs) (ht : w.length = t.length) : dotU (takeA x r w) t = dotU w (stepT x r t) := by
  obtain ⟨⟨d1, d2⟩, ⟨a1, a2⟩, ⟨b1, b2⟩⟩ := hx
  unfold takeA addR stepT tanU
  obtain ⟨p, hp⟩ : ∃ p, p = (partU x (getR r x.a) (getR r x.b)).1 := ⟨_, rfl⟩
  obtain ⟨q, hq⟩ : ∃ q, q = (partU x (getR r x.a) (getR r x.b)).2 := ⟨_, rfl⟩
  rw [← hp, ← hq]
  rw [dot_set_left _ _ _ _ (by simp [ht]) (by simp <;> omega), dot_set_left _ _ _ _ (by simp [ht]) (by simp <;> omega), dot_set_left _ _ _ _ ht (by omega), dot_set_right _ _ _ _ ht (by omega)]
  show dotU w t + (0 - getR w x.d) * getR t x.d + (getR (w.set x.d.toNat 0) x.a + p * getR w x.d - getR (w.set x.d.toNat 0) x.a) * getR t x.a +
    (getR ((w.set x.d.toNat 0).set x.a.toNat (getR (w.set x.d.toNat 0) x.a + p * getR w x.d)) x.b + q * getR w x.d - getR ((w.set x.d.toNat 0).set x.a.toNat (getR (w.set x.d.toNat 0) x.a + p * getR w x.d)) x.b) * getR t x.b =
    dotU w t + (p * getR t x.a + q * getR t x.b - getR t x.d) * getR w x.d
  generalize getR (w.set x.d.toNat 0) x.a = u1
  generalize getR ((w.set x.d.toNat 0).set x.a.toNat (u1 + p * getR w x.d)) x.b = u2
  generalize getR w x.d = g
  generalize getR t x.a = ta
  generalize getR t x.b = tb
  generalize getR t x.d = td
  generalize dotU w t = D
  grind
/-- Adjoints are tangents' transposed. -/
theorem dot_back (l : List OpD) (regs : Int) (hl : ∀ x ∈ l, InR regs x) : ∀ (r w t : List UInt64), (w.length : Int) = regs → w.length = t.length → dotU (backA l r w) t = dotU w (runT l r t) := by
  induction l with
  | nil => intro r w t _ _; rfl
  | cons x l ih =>
    intro r w t hw ht
    show dotU (takeA x r (backA l (stepR r x) w)) t = _
    rw [dot_take x regs r _ t (hl x (by simp)) (by rw [backA_length]; exact hw) (by rw [backA_length]; exact ht), ih (fun y hy => hl y (by simp [hy])) _ w _ hw (by rw [stepT_length]; exact ht)]
    rfl
/-- the row that is 1 at one place -/
def unitR (n i : Nat) : List UInt64 := (List.replicate n 0).set i 1
theorem dot_zero (a : List UInt64) (n : Nat) : dotU a (List.replicate n 0) = 0 := by
  induction a generalizing n with
  | nil => cases n <;> rfl
  | cons x a ih => cases n with
    | zero => rfl
    | succ n => simp only [List.replicate_succ, dotU]; rw [ih]; grind
theorem dot_unit (a : List UInt64) (i : Nat) (hi : i < a.length) : dotU a (unitR a.length i) = (a[i]?).getD 0 := by
  unfold unitR
  rw [dot_set_right _ _ _ _ (by simp) hi, dot_zero]
  simp [hi]
/-- What is taken back is what tangents tell, one for each register. -/
theorem back_unit (l : List OpD) (regs : Int) (hl : ∀ x ∈ l, InR regs x) (r w : List UInt64) (hw : (w.length : Int) = regs) (i : Nat) (hi : i < w.length) : ((backA l r w)[i]?).getD 0 = dotU w (runT l r (unitR w.length i)) := by
  have h := dot_back l regs hl r w (unitR w.length i) hw (by simp [unitR])
  have h2 := dot_unit (backA l r w) i (by rw [backA_length]; exact hi)
  rw [backA_length] at h2
  rw [← h2, h]

/-! ### Linearity -/
def scaleR (c : UInt64) (l : List UInt64) : List UInt64 := l.map (c * ·)
theorem getR_scale (c : UInt64) (l : List UInt64) (i : Int) : getR (scaleR c l) i = c * getR l i := by
  unfold getR scaleR
  rw [List.getElem?_map]
  cases l[i.toNat]? with
  | none => simp
  | some v => rfl
theorem scale_set (c : UInt64) (l : List UInt64) (i : Nat) (v : UInt64) : (scaleR c l).set i (c * v) = scaleR c (l.set i v) := by
  unfold scaleR
  rw [List.map_set]
theorem stepT_scale (x : OpD) (r t : List UInt64) (c : UInt64) : stepT x r (scaleR c t) = scaleR c (stepT x r t) := by
  unfold stepT tanU
  rw [← scale_set, getR_scale, getR_scale]
  congr 1
  grind
theorem runT_scale (l : List OpD) (r t : List UInt64) (c : UInt64) : runT l r (scaleR c t) = scaleR c (runT l r t) := by
  induction l generalizing r t with
  | nil => rfl
  | cons x l ih => show runT l _ (stepT x r (scaleR c t)) = _; rw [stepT_scale, ih]; rfl
theorem takeA_scale (x : OpD) (r w : List UInt64) (c : UInt64) : takeA x r (scaleR c w) = scaleR c (takeA x r w) := by
  unfold takeA addR
  have e0 : (scaleR c w).set x.d.toNat 0 = scaleR c (w.set x.d.toNat 0) := by rw [← scale_set]; simp
  rw [e0, getR_scale, getR_scale]
  have e1 : c * getR (w.set x.d.toNat 0) x.a + (partU x (getR r x.a) (getR r x.b)).1 * (c * getR w x.d) = c * (getR (w.set x.d.toNat 0) x.a + (partU x (getR r x.a) (getR r x.b)).1 * getR w x.d) := by grind
  rw [e1, scale_set, getR_scale]
  have e2 : ∀ u, c * u + (partU x (getR r x.a) (getR r x.b)).2 * (c * getR w x.d) = c * (u + (partU x (getR r x.a) (getR r x.b)).2 * getR w x.d) := by intro u; grind
  rw [e2, scale_set]
theorem backA_scale (l : List OpD) (r w : List UInt64) (c : UInt64) : backA l r (scaleR c w) = scaleR c (backA l r w) := by
  induction l generalizing r w with
  | nil => rfl
  | cons x l ih => show takeA x r (backA l _ (scaleR c w)) = _; rw [ih, takeA_scale]; rfl
def sumR (a b : List UInt64) : List UInt64 := List.zipWith (· + ·) a b
theorem sumR_length (a b : List UInt64) (h : a.length = b.length) : (sumR a b).length = a.length := by simp [sumR, h]
theorem getR_sum (a b : List UInt64) (h : a.length = b.length) (i : Int) : getR (sumR a b) i = getR a i + getR b i := by
  unfold getR sumR
  rw [List.getElem?_zipWith]
  by_cases hi : i.toNat < a.length
  · simp [hi, show i.toNat < b.length by omega]
  · rw [List.getElem?_eq_none (by omega), List.getElem?_eq_none (by omega)]; simp
theorem sum_set (a b : List UInt64) (i : Nat) (u v : UInt64) : (sumR a b).set i (u + v) = sumR (a.set i u) (b.set i v) := by
  unfold sumR
  induction a generalizing b i with
  | nil => simp
  | cons x a ih =>
    cases b with
    | nil => simp
    | cons y b => cases i with
      | zero => simp
      | succ i => simp [ih]
theorem takeA_sum (x : OpD) (r v w : List UInt64) (h : v.length = w.length) : takeA x r (sumR v w) = sumR (takeA x r v) (takeA x r w) := by
  unfold takeA addR
  have e0 : (sumR v w).set x.d.toNat 0 = sumR (v.set x.d.toNat 0) (w.set x.d.toNat 0) := by rw [← sum_set]; simp
  rw [e0, getR_sum v w h, getR_sum _ _ (by simp [h])]
  have e1 : ∀ a b, a + b + (partU x (getR r x.a) (getR r x.b)).1 * (getR v x.d + getR w x.d) = (a + (partU x (getR r x.a) (getR r x.b)).1 * getR v x.d) + (b + (partU x (getR r x.a) (getR r x.b)).1 * getR w x.d) := by intro a b; grind
  rw [e1, sum_set, getR_sum _ _ (by simp [h])]
  have e2 : ∀ a b, a + b + (partU x (getR r x.a) (getR r x.b)).2 * (getR v x.d + getR w x.d) = (a + (partU x (getR r x.a) (getR r x.b)).2 * getR v x.d) + (b + (partU x (getR r x.a) (getR r x.b)).2 * getR w x.d) := by intro a b; grind
  rw [e2, sum_set]
theorem backA_sum (l : List OpD) (r v w : List UInt64) (h : v.length = w.length) : backA l r (sumR v w) = sumR (backA l r v) (backA l r w) := by
  induction l generalizing r v w with
  | nil => rfl
  | cons x l ih => show takeA x r (backA l _ (sumR v w)) = _; rw [ih _ _ _ h, takeA_sum _ _ _ _ (by rw [backA_length, backA_length, h])]; rfl

/-! ### Tapes -/
/-- what a run overwrites -/
def tapeR : List OpD → List UInt64 → List UInt64
  | [], _ => []
  | x :: l, r => getR r x.d :: tapeR l (stepR r x)
theorem tapeR_length (l : List OpD) (r : List UInt64) : (tapeR l r).length = l.length := by
  induction l generalizing r with
  | nil => rfl
  | cons x l ih => simp [tapeR, ih]
/-- writes taken back, the last one first -/
def undoR : List OpD → List UInt64 → List UInt64 → List UInt64
  | x :: l, v :: t, r => (undoR l t r).set x.d.toNat v
  | _, _, r => r
theorem undoR_length (l : List OpD) (t r : List UInt64) : (undoR l t r).length = r.length := by
  induction l generalizing t r with
  | nil => rfl
  | cons x l ih => cases t with
    | nil => rfl
    | cons v t => simp [undoR, ih]
theorem set_getR (r : List UInt64) (d : Int) (v : UInt64) : (r.set d.toNat v).set d.toNat (getR r d) = r := by
  rw [List.set_set]
  unfold getR
  by_cases h : d.toNat < r.length
  · rw [List.getElem?_eq_getElem h]; simp
  · rw [List.set_eq_of_length_le (by omega)]
theorem undo_tape (l : List OpD) (r : List UInt64) : undoR l (tapeR l r) (runR l r) = r := by
  induction l generalizing r with
  | nil => rfl
  | cons x l ih =>
    show (undoR l (tapeR l (stepR r x)) (runR l (stepR r x))).set x.d.toNat (getR r x.d) = r
    rw [ih]
    exact set_getR r x.d _
/-- adjoints taken back by a tape: registers, adjoints -/
def backR : List OpD → List UInt64 → List UInt64 → List UInt64 → List UInt64 × List UInt64
  | x :: l, v :: t, r, w => let s := backR l t r w; (s.1.set x.d.toNat v, takeA x (s.1.set x.d.toNat v) s.2)
  | _, _, r, w => (r, w)
theorem backR_undo (l : List OpD) (t r w : List UInt64) : (backR l t r w).1 = undoR l t r := by
  induction l generalizing t r w with
  | nil => rfl
  | cons x l ih => cases t with
    | nil => rfl
    | cons v t => simp [backR, undoR, ih]
theorem backR_length (l : List OpD) (t r w : List UInt64) : (backR l t r w).2.length = w.length := by
  induction l generalizing t r w with
  | nil => rfl
  | cons x l ih => cases t with
    | nil => rfl
    | cons v t => simp [backR, takeA_length, ih]
/-- by the tape of the run itself -/
theorem backR_tape (l : List OpD) (r w : List UInt64) : backR l (tapeR l r) (runR l r) w = (r, backA l r w) := by
  induction l generalizing r w with
  | nil => rfl
  | cons x l ih =>
    have h := ih (stepR r x) w
    show (let s := backR l (tapeR l (stepR r x)) (runR l (stepR r x)) w; (s.1.set x.d.toNat (getR r x.d), takeA x (s.1.set x.d.toNat (getR r x.d)) s.2)) = _
    rw [h]
    simp only
    rw [show (stepR r x).set x.d.toNat (getR r x.d) = r from set_getR r x.d _]
    rfl
theorem backR_scale (l : List OpD) (t r w : List UInt64) (c : UInt64) : backR l t r (scaleR c w) = ((backR l t r w).1, scaleR c (backR l t r w).2) := by
  induction l generalizing t r w with
  | nil => rfl
  | cons x l ih => cases t with
    | nil => rfl
    | cons v t => simp only [backR]; rw [ih]; simp only; rw [takeA_scale]
end Go.Proofs.YtmmepffdjmpblaaGreat
