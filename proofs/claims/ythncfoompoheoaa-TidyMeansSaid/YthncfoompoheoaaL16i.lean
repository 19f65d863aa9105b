/- Chapter 16: the document's Look by its results; what must come at any rate. -/
import Derived.Test.YthncfoompoheoaaL16h
import Derived.Test.YthncfoompoheoaaQb
import Derived.Test.YthncfoompoheoaaQn
namespace Go.Proofs.Ythncfoompoheoaa
set_option linter.unusedVariables false
set_option linter.unusedSimpArgs false
open Go.RowKit Go.Shelf
theorem Look16_calls (regs : Int) (a : Option Addr) (c ln : Nat) (l : List OpD) (hln : ln = l.length) (oa : Option Addr) (oc n : Nat) (outs : List Int) (hno : n = outs.length) (w : World) (h : At w a l) (hl : ln ≤ 1000000) (ho : At w oa outs) (hol : n ≤ 1000000)
    (O : List Bool) (Fi : List Int) (C : Nat) (E : Int) (hO : liveO regs l outs = O) (hF : liveF regs l outs = Fi) (hC : liveC regs l outs = C) (hE : liveE regs l outs = E) :
    Calls Try.prog 90 #[.agg #[.int .i64 regs, .slice a ln c], .slice oa n oc] w (LookPost O Fi C E w) := by
  subst hln
  by_cases hc : checkS regs l = 0
  · obtain ⟨f, rfl, g⟩ := good_of_check hc
    exact look16_good regs a c f g oa oc n outs hno w h ho hol O Fi C E hO hF hC hE
  · have h2 : liveE regs l outs = checkS regs l := by unfold liveE; rw [if_pos hc]
    obtain ⟨e1, e2, e3⟩ := live_bad (regs := regs) (l := l) (outs := outs) (by rw [h2]; exact hc)
    subst hno
    rw [← hO, ← hF, ← hC, ← hE, e1, e2, e3, h2]
    refine (look16_bad regs a c l oa oc outs w h hl hc).mono ?_
    rintro e w' ⟨rfl, hb⟩
    exact ⟨none, 0, none, 0, rfl, Own.none _ _ _, Own.none _ _ _, hb⟩
theorem NeededN (regs : Int) (a : Option Addr) (c ln : Nat) (l : List OpD) (hln : ln = l.length) (oa : Option Addr) (oc n : Nat) (outs : List Int) (hno : n = outs.length) (w : World) (O : List Bool) (Fi : List Int) (C : Nat) (E : Int) (on fn : Nat) (hon : on = O.length) (hfn : fn = Fi.length) (hO : liveO regs l outs = O) (hF : liveF regs l outs = Fi) (hC : liveC regs l outs = C) (hE : liveE regs l outs = E) (h : At w a l) (hl : ln ≤ 1000000) (ho : At w oa outs) (hol : n ≤ 1000000) :
    Calls Try.prog 86 #[.agg #[.int .i64 regs, .slice a ln c], .slice oa n oc] w fun e w' => (∃ ap cp, e = .returned (.tuple #[.slice ap on cp, .int .i64 E]) ∧ Own w' w.heap.size 4 ap cp O) ∧ Below w.heap.size w w' := by
  subst hln hno hon hfn
  exact Needed_calls regs a c l oa oc outs w O Fi C E hO hF hC hE h hl ho hol
def ex16 : Fo := .leaf ⟨6, 1, 0, 0, 0⟩ (.leaf ⟨5, 0, 0, 0, 0⟩ (.leaf ⟨4, 1, 1, 0, 0⟩ .nil))
theorem ex16_good : Good 2 ex16 := good_of_lit (by simp [ex16, Fo.ok]) (by decide)
theorem ex16_live : liveE 2 ex16.flat [1] = 0 ∧ liveO 2 ex16.flat [1] = [true, false, true] ∧ liveF 2 ex16.flat [1] = [0] ∧ liveC 2 ex16.flat [1] = 2 := by
  obtain ⟨h0, h1, h2, h3⟩ := live_good ex16_good (outs := [1]) (by decide)
  rw [h0, h1, h2, h3]
  decide
end Go.Proofs.Ythncfoompoheoaa
