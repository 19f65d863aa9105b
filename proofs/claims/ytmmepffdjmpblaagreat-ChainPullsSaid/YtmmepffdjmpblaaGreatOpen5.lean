/- How an argument that is a chain of the document is opened. -/
import Derived.Test.YtmmepffdjmpblaaGreatQo
namespace Go.Proofs.YtmmepffdjmpblaaGreat
set_option linter.unusedVariables false
set_option linter.unusedSimpArgs false
open Go.ChangeShapes Go.WideShapes Go.ChangeAt Go.RowKit
section
variable {H : Type} {enc : TypeId × Value → H} {w : World} {base : Nat} {held : Bool}
theorem list6 {α : Type} {cs : List α} (h : cs.length = 6) : ∃ u0 u1 u2 u3 u4 u5, cs = [u0, u1, u2, u3, u4, u5] := by
  match cs, h with
  | [u0, u1, u2, u3, u4, u5], _ => exact ⟨u0, u1, u2, u3, u4, u5, rfl⟩
theorem list4 {α : Type} {cs : List α} (h : cs.length = 4) : ∃ u0 u1 u2 u3, cs = [u0, u1, u2, u3] := by
  match cs, h with
  | [u0, u1, u2, u3], _ => exact ⟨u0, u1, u2, u3, rfl⟩
set_option maxRecDepth 100000 in
theorem open_chain {fuel : Nat} {cs : List Value} {x : DataW H × List MemPlace} (h : DataW.trod enc Tryz.prog w base (fun _ => true) held fuel 27 cs = some x) :
    ∃ (r1 r2 z : Int) (a b ta : Option Addr) (c d tc : Nat) (l m : List OpD) (th : List UInt64), cs = [.int .i64 r1, .slice a l.length c, .int .i64 r2, .slice b m.length d, .int .i64 z, .slice ta th.length tc] ∧ i64ok r1 ∧ i64ok r2 ∧ i64ok z ∧ At w a l ∧ At w b m ∧ At w ta th := by
  obtain ⟨xs, n, _, _, hlen, hxl, hf⟩ := DataW.trod_struct Tryz.underlying27 h
  have hl6 : cs.length = 6 := hlen.trans (by kernel_rfl)
  have hx4 : xs.length = 4 := hxl
  obtain ⟨u0, u1, u2, u3, u4, u5, rfl⟩ : ∃ u0 u1 u2 u3 u4 u5, cs = [u0, u1, u2, u3, u4, u5] := by
    clear h hf hlen hxl hx4
    exact list6 hl6
  obtain ⟨y0, y1, y2, y3, rfl⟩ : ∃ y0 y1 y2 y3, xs = [y0, y1, y2, y3] := by
    exact list4 hx4
  have t0 : DataW.trod enc Tryz.prog w base (fun _ => true) held n 24 [u0, u1] = some y0 := hf 0 _ rfl
  have t1 : DataW.trod enc Tryz.prog w base (fun _ => true) held n 24 [u2, u3] = some y1 := hf 1 _ rfl
  have t2 : DataW.trod enc Tryz.prog w base (fun _ => true) held n 3 [u4] = some y2 := hf 2 _ rfl
  have t3 : DataW.trod enc Tryz.prog w base (fun _ => true) held n 25 [u5] = some y3 := hf 3 _ rfl
  obtain ⟨r1, a, c, l, e1, g1, _, _, k1, _⟩ := open_prog t0
  obtain ⟨r2, b, d, m, e2, g2, _, _, k2, _⟩ := open_prog t1
  obtain ⟨z, rfl, g3⟩ := int_field t2
  obtain ⟨ta, tc, th, e3, _, _, k3⟩ := open_words Tryz.underlying25 Tryz.underlying50 (by kernel_rfl) t3
  simp at e1 e2 e3
  obtain ⟨rfl, rfl⟩ := e1
  obtain ⟨rfl, rfl⟩ := e2
  subst e3
  exact ⟨r1, r2, z, a, b, ta, c, d, tc, l, m, th, rfl, g1, g2, g3, k1, k2, k3⟩
end
end Go.Proofs.YtmmepffdjmpblaaGreat
