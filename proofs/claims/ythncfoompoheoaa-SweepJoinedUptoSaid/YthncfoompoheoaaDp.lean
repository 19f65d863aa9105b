/- Runs on duals, plain: a run on duals is a run and a run of tangents. No program is named here. -/
import Derived.Test.YthncfoompoheoaaDo
namespace Go.Proofs.Ythncfoompoheoaa
set_option linter.unusedVariables false
set_option linter.unusedSimpArgs false
open Go.RowKit
def getD14 (r : List DuD) (i : Int) : DuD := (r[i.toNat]?).getD ⟨0, 0⟩
def stepD (r : List DuD) (x : OpD) : List DuD := r.set x.d.toNat (doesD x (getD14 r x.a) (getD14 r x.b))
def runD (l : List OpD) (r : List DuD) : List DuD := l.foldl stepD r
theorem stepD_length (r : List DuD) (x : OpD) : (stepD r x).length = r.length := by simp [stepD]
theorem runD_length (l : List OpD) (r : List DuD) : (runD l r).length = r.length := by
  induction l generalizing r with
  | nil => rfl
  | cons x l ih => show (runD l (stepD r x)).length = _; rw [ih, stepD_length]
theorem runD_append (a b : List OpD) (r : List DuD) : runD (a ++ b) r = runD b (runD a r) := List.foldl_append ..
theorem runD_snoc (l : List OpD) (r : List DuD) {k : Nat} {x : OpD} (h : l[k]? = some x) : runD (l.take (k + 1)) r = stepD (runD (l.take k) r) x := by
  rw [List.take_add_one, h]
  show runD (l.take k ++ [x]) r = _
  rw [runD_append]
  rfl
theorem doesD_eq (x : OpD) (a b : DuD) (h1 : 1 ≤ x.kind) (h2 : x.kind ≤ 6) : doesD x a b = ⟨applyU x a.v b.v, (partU x a.v b.v).1 * a.d + (partU x a.v b.v).2 * b.d⟩ := by
  obtain ⟨k, d, xa, xb, v⟩ := x
  obtain ⟨av, ad⟩ := a
  obtain ⟨bv, bd⟩ := b
  simp only at h1 h2
  rcases kind8 k with h | rfl | rfl | rfl | rfl | rfl | rfl | rfl | rfl | h <;> first | omega | (simp [doesD, applyU, partU, addD, negD, mulD]; try grind)
def zipD (r t : List UInt64) : List DuD := List.zipWith DuD.mk r t
theorem zipD_length (r t : List UInt64) (h : r.length = t.length) : (zipD r t).length = r.length := by simp [zipD, h]
theorem getD14_zip (r t : List UInt64) (h : r.length = t.length) (i : Int) : getD14 (zipD r t) i = ⟨getR r i, getR t i⟩ := by
  unfold getD14 zipD getR
  rw [List.getElem?_zipWith]
  by_cases hi : i.toNat < r.length
  · rw [List.getElem?_eq_getElem hi, List.getElem?_eq_getElem (by omega)]; rfl
  · rw [List.getElem?_eq_none (by omega), List.getElem?_eq_none (by omega)]; rfl
theorem zipD_set (r t : List UInt64) (i : Nat) (a b : UInt64) : (zipD r t).set i ⟨a, b⟩ = zipD (r.set i a) (t.set i b) := by
  unfold zipD
  apply List.ext_getElem?
  intro j
  simp only [List.getElem?_set, List.getElem?_zipWith, List.length_zipWith]
  by_cases hij : i = j
  · subst hij
    by_cases h1 : i < r.length
    · by_cases h2 : i < t.length
      · simp [h1, h2]; omega
      · simp [h1, h2]; omega
    · simp [h1]; omega
  · simp [hij]
theorem stepD_zip (x : OpD) (r t : List UInt64) (h : r.length = t.length) (h1 : 1 ≤ x.kind) (h2 : x.kind ≤ 6) : stepD (zipD r t) x = zipD (stepR r x) (stepT x r t) := by
  unfold stepD stepR stepT tanU
  rw [getD14_zip r t h, getD14_zip r t h, doesD_eq x _ _ h1 h2, zipD_set]
theorem runD_zip (l : List OpD) (hl : ∀ x ∈ l, 1 ≤ x.kind ∧ x.kind ≤ 6) (r t : List UInt64) (h : r.length = t.length) : runD l (zipD r t) = zipD (runR l r) (runT l r t) := by
  induction l generalizing r t with
  | nil => rfl
  | cons x l ih =>
    have hx := hl x (by simp)
    show runD l (stepD (zipD r t) x) = zipD (runR l (stepR r x)) (runT l (stepR r x) (stepT x r t))
    rw [stepD_zip x r t h hx.1 hx.2, ih (fun y hy => hl y (by simp [hy])) _ _ (by rw [stepR_length, stepT_length, h])]
theorem zipD_v (r t : List UInt64) (h : r.length = t.length) : (zipD r t).map (·.v) = r := by
  unfold zipD
  induction r generalizing t with
  | nil => rfl
  | cons a r ih =>
    cases t with
    | nil => simp at h
    | cons b t => simp only [List.zipWith_cons_cons, List.map_cons]; rw [ih t (by simpa using h)]
theorem zipD_d (r t : List UInt64) (h : r.length = t.length) : (zipD r t).map (·.d) = t := by
  unfold zipD
  induction r generalizing t with
  | nil => cases t with
    | nil => rfl
    | cons b t => simp at h
  | cons a r ih =>
    cases t with
    | nil => simp at h
    | cons b t => simp only [List.zipWith_cons_cons, List.map_cons]; rw [ih t (by simpa using h)]
theorem zipD_of (l : List DuD) : zipD (l.map (·.v)) (l.map (·.d)) = l := by
  unfold zipD
  induction l with
  | nil => rfl
  | cons a l ih => simp only [List.map_cons, List.zipWith_cons_cons]; rw [ih]
theorem Own.setD {w : World} {B : Nat} {E : TypeId} {g c : Nat} {l : List DuD} (h : Own w B E (some ⟨g, 0, .none⟩) c l) {i : Nat} {x : DuD} (hx : l[i]? = some x) (y : DuD) :
    Own ((w.setCell ⟨g, i * 2, .none⟩ (.int .u64 (y.v.toNat : Int))).setCell ⟨g, i * 2 + 1, .none⟩ (.int .u64 (y.d.toNat : Int))) B E (some ⟨g, 0, .none⟩) c (l.set i y) := by
  have hi := (List.getElem?_eq_some_iff.1 hx).1
  have h1 := h.setAt i 0 ⟨y.v, x.d⟩ x (.int .u64 (y.v.toNat : Int)) hx (by decide) rfl
  have h2 := h1.setAt i 1 y ⟨y.v, x.d⟩ (.int .u64 (y.d.toNat : Int)) (by rw [List.getElem?_set, if_pos rfl, if_pos hi]) (by decide) rfl
  rw [List.set_set] at h2
  exact h2
theorem At.getDu {w wr : World} {a : Option Addr} {l : List DuD} (h : At w a l) (hb : Below w.heap.size w wr) {k : Nat} (hk : k < l.length) :
    ∃ b off x, a = some ⟨b, off, none⟩ ∧ Hid (l[k]? = some x) ∧ wr.cell? ⟨b, off + k * 2, none⟩ = some (.int .u64 (x.v.toNat : Int)) ∧ wr.cell? ⟨b, off + k * 2 + 1, none⟩ = some (.int .u64 (x.d.toNat : Int)) := by
  obtain ⟨b, off, x, e, hx, hc⟩ := (h.belowN hb).get hk
  exact ⟨b, off, x, e, hx, hc 0 _ rfl, hc 1 _ rfl⟩
end Go.Proofs.Ythncfoompoheoaa
