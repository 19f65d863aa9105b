/- How arguments that are polynomials are opened. -/
import Derived.Test.YtcamcnahkdiefaaGreatQo
import Derived.Test.YtcamcnahkdiefaaGreatOpen4
import Derived.Test.YtcamcnahkdiefaaGreatQw
namespace Go.Proofs.YtcamcnahkdiefaaGreat
set_option linter.unusedVariables false
set_option linter.unusedSimpArgs false
open Go.ChangeShapes Go.WideShapes Go.ChangeAt Go.RowKit
section
variable {H : Type} {enc : TypeId × Value → H} {w : World} {base : Nat} {held : Bool}
/-- a term's powers lie in memory -/
def TmH.hasE (w : World) (h : TmH) : Prop := ∃ e : List Int, h.n = e.length ∧ h.n ≤ h.k ∧ h.k ≤ 9223372036854775807 ∧ At w h.a e
theorem dec_term (fuel : Nat) (cs : List Value) (y : DataW H × List MemPlace) (h : DataW.trod enc Tryz.prog w base (fun _ => true) held fuel 92 cs = some y) : ∃ z : TmH, cs = Flat.enc z ∧ TmH.hasE w z := by
  obtain ⟨hl, n, hf⟩ := fields_of Tryz.underlying92 (by kernel_rfl) (by kernel_rfl) h
  obtain ⟨v0, y0, c0, t0⟩ := hf 0 _ rfl
  obtain ⟨v1, y1, c1, t1⟩ := hf 1 _ rfl
  obtain ⟨z0, rfl⟩ := u64_field t0
  obtain ⟨a, c, l, e, h1, h2, h3, h4⟩ := open_ints t1
  match cs, hl with
  | [u0, u1], _ =>
    simp at c0 c1 e
    subst c0 c1 e
    exact ⟨⟨z0, a, l.length, c⟩, rfl, l, rfl, h1, h2, h3⟩
theorem terms_of {w : World} : ∀ (hs : List TmH), (∀ z ∈ hs, TmH.hasE w z) → ∃ ts : List Tm, ts.length = hs.length ∧ ∀ (i : Nat) (h : TmH) (t : Tm), hs[i]? = some h → ts[i]? = some t → TmH.of w h t
  | [], _ => ⟨[], rfl, fun i h t e => by simp at e⟩
  | z :: hs, hz => by
    obtain ⟨ts, h1, h2⟩ := terms_of hs fun x hx => hz x (List.mem_cons_of_mem _ hx)
    obtain ⟨e, g1, g2, g3, g4⟩ := hz z List.mem_cons_self
    refine ⟨(z.c, e) :: ts, by simp [h1], fun i h t e1 e2 => ?_⟩
    match i with
    | 0 =>
      simp at e1 e2
      subst e1 e2
      exact ⟨rfl, g1, g2, g3, g4⟩
    | i + 1 => exact h2 i h t (by simpa using e1) (by simpa using e2)
instance : Inhabited TmH := ⟨⟨0, none, 0, 0⟩⟩
theorem open_terms {fuel : Nat} {cs : List Value} {x : DataW H × List MemPlace} (h : DataW.trod enc Tryz.prog w base (fun _ => true) held fuel 40 cs = some x) :
    ∃ (a : Option Addr) (n c : Nat) (ts : List Tm), cs = [.slice a n c] ∧ TOut (fun _ => True) w a n c ts := by
  obtain ⟨a, c, l, e, h1, h2, h3, h4⟩ := open_flat (α := TmH) Tryz.underlying40 (by kernel_rfl) (TmH.hasE w) dec_term h
  obtain ⟨ts, g1, g2⟩ := terms_of l h4
  exact ⟨a, l.length, c, ts, e, g1.symm, h1, Nat.le_trans h2 (by decide), AtT.any ⟨l, h3, g1.symm, g2⟩⟩
theorem open_poly {fuel : Nat} {cs : List Value} {x : DataW H × List MemPlace} (h : DataW.trod enc Tryz.prog w base (fun _ => true) held fuel 42 cs = some x) :
    ∃ (vars : Int) (a : Option Addr) (n c : Nat) (ts : List Tm), cs = [.int .i64 vars, .slice a n c] ∧ i64ok vars ∧ TOut (fun _ => True) w a n c ts := by
  obtain ⟨hl, n, hf⟩ := fields_of Tryz.underlying42 (by kernel_rfl) (by kernel_rfl) h
  obtain ⟨v0, y0, c0, t0⟩ := hf 0 _ rfl
  obtain ⟨v1, y1, c1, t1⟩ := hf 1 _ rfl
  obtain ⟨z0, rfl, b0⟩ := int_field t0
  obtain ⟨a, n, c, ts, e, hT⟩ := open_terms t1
  match cs, hl with
  | [u0, u1], _ =>
    simp at c0 c1 e
    subst c0 c1 e
    exact ⟨z0, a, n, c, ts, rfl, b0, hT⟩
end
end Go.Proofs.YtcamcnahkdiefaaGreat
