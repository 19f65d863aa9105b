/- How arguments that are lists of polynomials are opened. -/
import Derived.Test.YtcamcnahkdiefaaGreatOpen7
import Derived.Test.YtcamcnahkdiefaaGreatQ5
namespace Go.Proofs.YtcamcnahkdiefaaGreat
set_option linter.unusedVariables false
set_option linter.unusedSimpArgs false
open Go.ChangeShapes Go.WideShapes Go.ChangeAt Go.RowKit
section
variable {H : Type} {enc : TypeId × Value → H} {w : World} {base : Nat} {held : Bool}
/-- a polynomial lies in memory -/
def PoH.hasT (w : World) (h : PoH) : Prop := ∃ L : List Tm, TOut (fun _ => True) w h.a h.n h.c L
theorem dec_po (fuel : Nat) (cs : List Value) (y : DataW H × List MemPlace) (h : DataW.trod enc Tryz.prog w base (fun _ => true) held fuel 42 cs = some y) : ∃ z : PoH, cs = Flat.enc z ∧ PoH.hasT w z := by
  obtain ⟨vars, a, n, c, ts, rfl, _, hT⟩ := open_poly h
  exact ⟨⟨vars, a, n, c⟩, rfl, ts, hT⟩
theorem polys_of {w : World} : ∀ (hs : List PoH), (∀ z ∈ hs, PoH.hasT w z) → ∃ r : List (List Tm), hs.length = r.length ∧ ∀ (i : Nat) (h : PoH) (L : List Tm), hs[i]? = some h → r[i]? = some L → TOut (fun _ => True) w h.a h.n h.c L
  | [], _ => ⟨[], rfl, fun i h t e => by simp at e⟩
  | z :: hs, hz => by
    obtain ⟨ts, h1, h2⟩ := polys_of hs fun x hx => hz x (List.mem_cons_of_mem _ hx)
    obtain ⟨L, hL⟩ := hz z List.mem_cons_self
    refine ⟨L :: ts, by simp [h1], fun i h t e1 e2 => ?_⟩
    match i with
    | 0 =>
      simp at e1 e2
      subst e1 e2
      exact hL
    | i + 1 => exact h2 i h t (by simpa using e1) (by simpa using e2)
theorem open_polys {fuel : Nat} {cs : List Value} {x : DataW H × List MemPlace} (h : DataW.trod enc Tryz.prog w base (fun _ => true) held fuel 27 cs = some x) :
    ∃ (a : Option Addr) (c : Nat) (hs : List PoH) (r : List (List Tm)), cs = [.slice a hs.length c] ∧ At w a hs ∧ hs.length = r.length ∧ ∀ (i : Nat) (h : PoH) (L : List Tm), hs[i]? = some h → r[i]? = some L → TOut (fun _ => True) w h.a h.n h.c L := by
  obtain ⟨a, c, l, e, h1, h2, h3, h4⟩ := open_flat (α := PoH) Tryz.underlying27 (by kernel_rfl) (PoH.hasT w) dec_po h
  obtain ⟨r, g1, g2⟩ := polys_of l h4
  exact ⟨a, c, l, r, e, h3, g1, g2⟩
end
end Go.Proofs.YtcamcnahkdiefaaGreat
