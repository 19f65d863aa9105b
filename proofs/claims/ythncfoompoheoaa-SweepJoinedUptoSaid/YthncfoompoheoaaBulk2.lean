/- What the bound on the arguments' bulk gives: how long slices of words and of numbers are. -/
import Derived.Test.YthncfoompoheoaaBulk
namespace Go.Proofs.Ythncfoompoheoaa
set_option linter.unusedVariables false
set_option linter.unusedSimpArgs false
open Go.ChangeShapes Go.WideShapes Go.ChangeAt Go.RowKit
section
variable {H : Type} {enc : TypeId × Value → H} {w : World} {base : Nat} {held : Bool}
theorem bulk_slice {T E : TypeId} {fuel : Nat} {a : Option Addr} {n c : Nat} {x : DataW H × List MemPlace} {cs : List Value} (hT : Try.prog.underlying T = some (.slice E)) (h : DataW.trod enc Try.prog w base (fun _ => true) held fuel T cs = some x) (e : cs = [.slice a n c]) : n ≤ Rows.uptoBulk x.1 := by
  subst e
  rcases Deep.open_slice hT h with ⟨e, _⟩ | ⟨a', len, cap, m, n', D, Pl, e, _, hl, hm, hmm, hx, hd⟩
  · simp at e
    obtain ⟨_, rfl, _⟩ := e
    omega
  · simp at e
    obtain ⟨_, rfl, _⟩ := e
    simp only [if_true] at hmm
    have := bulk_each (k := 1) (l := (List.range n).map D) (fun d hd' => bulk_one d)
    simp only [List.length_map, List.length_range] at this
    rw [hx]
    simp only [Rows.uptoBulk]
    omega
theorem trodAll_five {P : Program} {spare : Nat → Bool} {t t' t'' t3 t4 : TypeId} {args : Array Value} {ds : List (DataW H)} {ps : List MemPlace} (h : DataW.TrodAll enc P w base spare held [t, t', t'', t3, t4] args.toList ds ps) :
    ∃ v v' v'' v3 v4 d d' d'' d3 d4 p p' p'' p3 p4, args = #[v, v', v'', v3, v4] ∧ ds = [d, d', d'', d3, d4] ∧ ps = p ++ p' ++ p'' ++ p3 ++ p4 ∧ DataW.Trod enc P w base spare held t v d p ∧ DataW.Trod enc P w base spare held t' v' d' p' ∧ DataW.Trod enc P w base spare held t'' v'' d'' p'' ∧ DataW.Trod enc P w base spare held t3 v3 d3 p3 ∧ DataW.Trod enc P w base spare held t4 v4 d4 p4 := by
  obtain ⟨v, vs, d, ds', p, q, hargs, rfl, rfl, hd, hrest⟩ := trodAll_cons h
  obtain ⟨v', vs', d', ds'', p', q', rfl, rfl, rfl, hd', hrest'⟩ := trodAll_cons hrest
  obtain ⟨v'', vs'', d'', ds''', p'', q'', rfl, rfl, rfl, hd'', hrest''⟩ := trodAll_cons hrest'
  obtain ⟨v3, vs3, d3, ds3, p3, q3, rfl, rfl, rfl, hd3, hrest3⟩ := trodAll_cons hrest''
  obtain ⟨v4, vs4, d4, ds4, p4, q4, rfl, rfl, rfl, hd4, hrest4⟩ := trodAll_cons hrest3
  obtain ⟨rfl, rfl, rfl⟩ := trodAll_nil hrest4
  exact ⟨v, v', v'', v3, v4, d, d', d'', d3, d4, p, p', p'', p3, p4, by cases args; simp_all, rfl, by simp, hd, hd', hd'', hd3, hd4⟩
end
end Go.Proofs.Ythncfoompoheoaa
