/- append onto a slice of the call's own: what it held stays, read by its old head. -/
import Derived.Test.YthncfoompoheoaaQa
namespace Go.Proofs.Ythncfoompoheoaa
set_option linter.unusedVariables false
set_option linter.unusedSimpArgs false
open Go.RowKit
section
variable {P : Program} {ops : Array Oper} {o : Oper} {act : Act} {K : Act → World → Prop} {Q : Exit → Act → World → Prop} {E' : Prop} {α : Type} [Flat α]
theorem own_kept {w w' : World} {T E : TypeId} (ty : Ty P T E α) {B : Nat} {a : Option Addr} {c : Nat} {l : List α} (own : Own w B E a c l) {a2 : Option Addr} {c2 : Nat} {l2 : List α} (src : At w a2 l2) (t0 : TypeId)
    (hl : l.length ≤ 1000000000) (hl2 : l2.length ≤ 1000000000) {v : Value} (hr : (Builtin.append_ #[T, T] t0 #[.slice a l.length c, .slice a2 l2.length c2]).run P w = .ok v w') : Own w' B E a c l := by
  obtain ⟨i, z, hi, hz, hsz, hby, hzs⟩ := ty.info
  cases a2 with
  | none =>
    have h0 : l2 = [] := by
      cases l2 with
      | nil => rfl
      | cons x r => obtain ⟨b, off, h, _⟩ := src 0 x rfl; cases h
    subst h0
    have h1 := run_append_none ty own c2 t0
    rw [show ([] : List α).length = 0 from rfl, h1] at hr
    injection hr with _ hw
    subst hw; exact own
  | some ad =>
    have hnews : ∀ j u, (l2.flatMap Flat.enc)[j]? = some u → w.cell? (ad.add j) = some u := by
      intro j u hu
      have hj : j < l2.length * Flat.n α := by rw [← enc_length]; exact (List.getElem?_eq_some_iff.1 hu).1
      have hp : 0 < Flat.n α := Flat.pos
      have hi' : j / Flat.n α < l2.length := (Nat.div_lt_iff_lt_mul hp).2 hj
      have hx := List.getElem?_eq_getElem hi'
      obtain ⟨b, off, e, h2⟩ := src _ _ hx
      injection e with e
      subst e
      have hf : j % Flat.n α < (Flat.enc l2[j / Flat.n α]).length := by rw [Flat.len]; exact Nat.mod_lt _ hp
      have h3 := enc_flat l2 _ _ hx _ _ (List.getElem?_eq_getElem hf)
      have hdm : j / Flat.n α * Flat.n α + j % Flat.n α = j := by rw [Nat.mul_comm]; exact Nat.div_add_mod j _
      rw [hdm, hu] at h3
      have h4 := h2 _ _ (List.getElem?_eq_getElem hf)
      rw [addr_add, ← h3] at *
      rw [← h4]
      congr 2
      omega
    have hln := enc_length l2
    have h1 := enc_one l2
    by_cases h20 : l2 = []
    · subst h20
      rcases own.2 with ⟨hv, h0⟩ | ⟨g, cap, cur, hv, hB, hg, hnc, hcm, hcs, htk⟩
      · injection hv with e1 e2 e3
        subst e1 e3
        have : l = [] := List.eq_nil_of_length_eq_zero h0
        subst this
        exact Own.none _ _ _
      · injection hv with e1 e2 e3
        subst e1 e3
        have hr2 := run_append_room (P := P) w T t0 E i ty.und hi g l.length c cur hg ad 0 c2 [] (by simp) (by simp) (by simp) (by omega) (by rw [hsz, hcs]; simp; exact Nat.mul_le_mul_right _ hnc)
        rw [show ([] : List α).length = 0 from rfl, hr2] at hr
        injection hr with _ hw
        subst hw
        refine ⟨own.1, .inr ⟨g, c, _, rfl, hB, setRow_heap w g cur _ E _ hg, hnc, hcm, ?_, ?_⟩⟩
        · simp [hcs]
        · simpa using htk
    rcases own.2 with ⟨hv, h0⟩ | ⟨g, cap, cur, hv, hB, hg, hnc, hcm, hcs, htk⟩
    · injection hv with e1 e2 e3
      subst e1 e3
      have : l = [] := List.eq_nil_of_length_eq_zero h0
      subst this
      exact Own.none _ _ _
    · injection hv with e1 e2 e3
      subst e1 e3
      by_cases hroom : l.length + l2.length ≤ c
      · have hfit : l.length * i.size + (l2.flatMap Flat.enc).length ≤ cur.size := by rw [hln, hcs, hsz, ← Nat.add_mul]; exact Nat.mul_le_mul_right _ hroom
        have hr2 := run_append_room (P := P) w T t0 E i ty.und hi g l.length c cur hg ad l2.length c2 _ (by rw [hln, hsz]) hnews h1 hroom hfit
        rw [hr2] at hr
        injection hr with _ hw
        subst hw
        refine ⟨own.1, .inr ⟨g, c, _, rfl, hB, setRow_heap w g cur _ E _ hg, hnc, hcm, ?_, ?_⟩⟩
        · simp only [List.size_toArray, List.length_append, List.length_take, List.length_drop, Array.length_toList]
          omega
        · rw [hsz] at hfit ⊢
          have key : ∀ (A D : List Value), ((cur.toList.take (l.length * Flat.n α) ++ A ++ D).take (l.length * Flat.n α)) = cur.toList.take (l.length * Flat.n α) := fun A D => by
            have hc9 : cur.toList.length = cur.size := Array.length_toList
            have hle : l.length * Flat.n α ≤ (cur.toList.take (l.length * Flat.n α)).length := by rw [List.length_take]; omega
            rw [List.append_assoc, List.take_append_of_le_length hle, List.take_take, Nat.min_self]
          exact (key _ _).trans htk
      · have holds : ∀ j u, (l.flatMap Flat.enc)[j]? = some u → w.cell? ((⟨g, 0, none⟩ : Addr).add j) = some u := World.ownsRow.cells own (g := g) rfl
        have hp2 : 0 < l2.length := Nat.pos_of_ne_zero (fun e => h20 (List.eq_nil_of_length_eq_zero e))
        have hr2 := run_append_grow (P := P) w T t0 E i z ty.und hi hz ⟨g, 0, none⟩ l.length c _ (by rw [enc_length, hsz]) holds ad l2.length c2 _ (by rw [hln, hsz]) hnews (by omega) (by omega) (growslice_fits (by omega) (Nat.le_trans (Nat.mul_le_mul (show l.length + l2.length ≤ 2000000000 by omega) hby) (by decide)))
        rw [hr2] at hr
        injection hr with _ hw
        subst hw
        exact own.drew.alloc _
/-- append at a step of a region, guarded or not; what it was put onto stays. -/
theorem step_pushK {w : World} {T E : TypeId} (ty : Ty P T E α) {B : Nat} {a : Option Addr} {c : Nat} {l : List α} (own : Own w B E a c l) {a2 : Option Addr} {c2 : Nat} {l2 : List α} (src : At w a2 l2) {s x : Operand} (hw : Region.wanted o (yielded ops act.tmps) = true)
    (ho : o.op = .call { callee := .builtin .append, args := #[s, x], argTypes := #[T, T] })
    {n n2 : Nat} (hs : act.eval s = .slice a n c) (hx : act.eval x = .slice a2 n2 c2) (hn : n = l.length) (hn2 : n2 = l2.length) (hB : B ≤ w.heap.size) (hl : n ≤ 1000000000) (hl2 : n2 ≤ 1000000000)
    (h : ∀ a' c' w', Own w' B E a' c' (l ++ l2) → Own w' B E a c l → w.grownBy w' (a.map (·.block)) → K (act.put o.dst (.slice a' (n + n2) c')) w') :
    if Region.wanted o (yielded ops act.tmps) = true then Oper.wp P o act w K Q else E' := by
  rw [if_pos hw]
  subst hn hn2
  obtain ⟨a', c', w', hr, h1, h2, h3⟩ := run_append_all ty own src o.type hB hl hl2 (c2 := c2)
  have hk := own_kept ty own src o.type hl hl2 hr
  unfold Oper.wp execOp
  simp only [ho, resolve, invoke, builtin, Sem.run_bind, Sem.run_pure, Result.andThen_ok, List.map_toArray, List.map_cons, List.map_nil, hs, hx, hr]
  exact h a' c' w' h1 hk h2
end
end Go.Proofs.Ythncfoompoheoaa
