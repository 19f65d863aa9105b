/- Chapter 21: what must come at any rate. -/
import Derived.RegionTactic
import Derived.BigRegion
import Derived.Deep.OwnRows
import Derived.Test.YtmmepffdjmpblaaGreatT21e
import Derived.Test.YtmmepffdjmpblaaGreatR21c
import Derived.Test.YtmmepffdjmpblaaGreatQn
namespace Go.Proofs.YtmmepffdjmpblaaGreat
set_option linter.unusedVariables false
set_option linter.unusedSimpArgs false
open Go.RowKit

def ex21 : Fo := .rep ⟨7, 0, 0, 0, 3⟩ (.leaf ⟨3, 0, 0, 1, 0⟩ .nil) ⟨0, 0, 0, 0, 0⟩ .nil
theorem mk3 (W : World) : (Instr.makeSlice 25 (.int .i64 3) (.int .i64 3)).run Tryz.prog W = .ok (.slice (some ⟨W.heap.size, 0, none⟩) 3 3) (W.alloc (.cells #[.int .u64 0, .int .u64 0, .int .u64 0] 50)) := by
  have h := run_make_row' 25 50 (.int .u64 0) 8 Tryz.underlying25 (by kernel_rfl) rfl .i64 .i64 3 (by decide) (by decide) W
  rw [show madeCells #[Value.int .u64 0] 3 = #[.int .u64 0, .int .u64 0, .int .u64 0] by kernel_rfl] at h
  exact h
theorem Own.atN {w : World} {B : Nat} {E : TypeId} {a : Option Addr} {c : Nat} {l : List UInt64} (h : Own w B E a c l) {n : Nat} (hn : n = l.length) : n = l.length ∧ At w a l := ⟨hn, h.at_⟩
theorem RecordN (regs : Int) (a : Option Addr) (c ln : Nat) (l : List OpD) (hln : ln = l.length) (ra : Option Addr) (rc rn : Nat) (r : List UInt64) (hrn : rn = r.length) (Br : Nat) (ta : Option Addr) (tc tn : Nat) (t : List UInt64) (htn : tn = t.length) (Bt : Nat) (N E : Int) (R' T' : List UInt64)
    (hN : recN regs l rn tn = N) (hE : readyS regs l rn tn = E) (hR : recR regs l r t = R') (hT : recT regs l r t = T') (w : World) (h : At w a l) (hl : ln ≤ 1000000) (hr : Own w Br 50 ra rc r) (ht : Own w Bt 50 ta tc t)
    (hrl : rn ≤ 1000000) (htl : tn ≤ 1000000) (hne : ∀ q, ra.map (·.block) = some q → ta.map (·.block) ≠ some q) :
    Calls Tryz.prog 43 #[.agg #[.int .i64 regs, .slice a ln c], .slice ra rn rc, .slice ta tn tc] w fun e w' => e = .returned (.tuple #[.int .i64 N, .int .i64 E]) ∧ Own w' Br 50 ra rc R' ∧ Own w' Bt 50 ta tc T' ∧ Turned (blkL ra ++ blkL ta) w w' := by
  subst hln hrn htn hN hE hR hT
  exact Record_calls regs a c l ra rc r Br ta tc t Bt w h hl hr ht hrl htl hne
theorem Record21N (regs : Int) (a : Option Addr) (c ln : Nat) (l : List OpD) (hln : ln = l.length) (ra : Option Addr) (rc rn : Nat) (r : List UInt64) (hrn : rn = r.length) (ta : Option Addr) (tc tn : Nat) (t : List UInt64) (htn : tn = t.length) (N E : Int) (R' T' : List UInt64)
    (hN : recN regs l rn tn = N) (hE : readyS regs l rn tn = E) (hR : recR regs l r t = R') (hT : recT regs l r t = T') (w : World) (h : At w a l) (hl : ln ≤ 1000000) (hr : At w ra r) (ht : At w ta t) (hrl : rn ≤ 1000000) (htl : tn ≤ 1000000) :
    Calls Tryz.prog 47 #[.agg #[.int .i64 regs, .slice a ln c], .slice ra rn rc, .slice ta tn tc] w fun e w' => ∃ a1 c1 a2 c2, e = .returned (.tuple #[.slice a1 rn c1, .slice a2 tn c2, .int .i64 N, .int .i64 E]) ∧ Own w' w.heap.size 50 a1 c1 R' ∧ Own w' w.heap.size 50 a2 c2 T' ∧ Below w.heap.size w w' := by
  subst hln hrn htn hN hE hR hT
  exact Record21_calls regs a c l ra rc r ta tc t w h hl hr ht hrl htl
theorem ex21_good : Good 2 ex21 := good_of_lit (by simp [ex21, Fo.ok]) (by decide)
theorem ex21_unr : ex21.unroll = [⟨3, 0, 0, 1, 0⟩, ⟨3, 0, 0, 1, 0⟩, ⟨3, 0, 0, 1, 0⟩] := by decide
theorem ex21_ready : readyS 2 ex21.flat 2 3 = 0 := ready_of_good ex21_good (by decide) (by rw [ex21_unr]; decide)
theorem ex21_rec : recR 2 ex21.flat [5, 2] [0, 0, 0] = [40, 2] ∧ recT 2 ex21.flat [5, 2] [0, 0, 0] = [5, 10, 20] ∧ recN 2 ex21.flat 2 3 = 3 := by
  obtain ⟨e1, e2, e3, _⟩ := rec_good ex21_good (r := [5, 2]) (t := [0, 0, 0]) (by decide) (by rw [ex21_unr]; decide)
  rw [ex21_unr] at e1 e2 e3
  exact ⟨by rw [e1]; decide, by rw [e2]; decide, by exact e3.trans (by decide)⟩
theorem ex21_place : placeS 2 ex21.flat 1 [2] = (2, 0) := by
  unfold placeS
  rw [if_neg (by rw [ex21_good.check]; simp), if_neg (by decide), fo_flat ex21_good.ok]
  decide
theorem ex21_was : wasS 2 ex21.flat [5, 10, 20] 1 [2] = (20, 0) := by
  unfold wasS
  rw [ex21_place, unrS_good ex21_good, ex21_unr]
  decide
end Go.Proofs.YtmmepffdjmpblaaGreat
