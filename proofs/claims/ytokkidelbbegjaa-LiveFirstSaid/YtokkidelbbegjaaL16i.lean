/- Chapter 16: the document's Look by its results; what must come at any rate. -/
import Derived.Test.YtokkidelbbegjaaL16h
import Derived.Test.YtokkidelbbegjaaQb
import Derived.Test.YtokkidelbbegjaaQn
namespace Go.Proofs.Ytokkidelbbegjaa
set_option linter.unusedVariables false
set_option linter.unusedSimpArgs false
open Go.RowKit Go.Shelf
theorem Look16_calls (regs : Int) (a : Option Addr) (c ln : Nat) (l : List OpD) (hln : ln = l.length) (oa : Option Addr) (oc n : Nat) (outs : List Int) (hno : n = outs.length) (w : World) (h : At w a l) (hl : ln ≤ 1000000) (ho : At w oa outs) (hol : n ≤ 1000000)
    (O : List Bool) (Fi : List Int) (C : Nat) (E : Int) (hO : liveO regs l outs = O) (hF : liveF regs l outs = Fi) (hC : liveC regs l outs = C) (hE : liveE regs l outs = E) :
    Calls Try.prog 20 #[.agg #[.int .i64 regs, .slice a ln c], .slice oa n oc] w (LookPost O Fi C E w) := by
  subst hln
  by_cases hc : checkS regs l = 0
  · obtain ⟨f, rfl, g⟩ := good_of_check hc
    exact look16_good regs a c f g oa oc n outs hno w h ho hol O Fi C E hO hF hC hE
  · have h2 : liveE regs l outs = checkS regs l := by unfold liveE; rw [if_pos hc]
    obtain ⟨e1, e2, e3⟩ := live_bad (regs := regs) (l := l) (outs := outs) (by rw [h2]; exact hc)
    subst hno
    rw [← hO, ← hF, ← hC, ← hE, e1, e2, e3, h2]
    refine (look16_bad regs a c l oa oc outs w h hl hc).mono ?_
    rintro e w' ⟨rfl, hb⟩
    exact ⟨none, 0, none, 0, rfl, Own.none _ _ _, Own.none _ _ _, hb⟩
theorem NeededN (regs : Int) (a : Option Addr) (c ln : Nat) (l : List OpD) (hln : ln = l.length) (oa : Option Addr) (oc n : Nat) (outs : List Int) (hno : n = outs.length) (w : World) (O : List Bool) (Fi : List Int) (C : Nat) (E : Int) (on fn : Nat) (hon : on = O.length) (hfn : fn = Fi.length) (hO : liveO regs l outs = O) (hF : liveF regs l outs = Fi) (hC : liveC regs l outs = C) (hE : liveE regs l outs = E) (h : At w a l) (hl : ln ≤ 1000000) (ho : At w oa outs) (hol : n ≤ 1000000) :
    Calls Try.prog 21 #[.agg #[.int .i64 regs, .slice a ln c], .slice oa n oc] w fun e w' => (∃ ap cp, e = .returned (.tuple #[.slice ap on cp, .int .i64 E]) ∧ Own w' w.heap.size 4 ap cp O) ∧ Below w.heap.size w w' := by
  subst hln hno hon hfn
  exact Needed_calls regs a c l oa oc outs w O Fi C E hO hF hC hE h hl ho hol
theorem FirstN (regs : Int) (a : Option Addr) (c ln : Nat) (l : List OpD) (hln : ln = l.length) (oa : Option Addr) (oc n : Nat) (outs : List Int) (hno : n = outs.length) (w : World) (O : List Bool) (Fi : List Int) (C : Nat) (E : Int) (on fn : Nat) (hon : on = O.length) (hfn : fn = Fi.length) (hO : liveO regs l outs = O) (hF : liveF regs l outs = Fi) (hC : liveC regs l outs = C) (hE : liveE regs l outs = E) (h : At w a l) (hl : ln ≤ 1000000) (ho : At w oa outs) (hol : n ≤ 1000000) :
    Calls Try.prog 22 #[.agg #[.int .i64 regs, .slice a ln c], .slice oa n oc] w fun e w' => (∃ ap cp, e = .returned (.tuple #[.slice ap fn cp, .int .i64 E]) ∧ Own w' w.heap.size 3 ap cp Fi) ∧ Below w.heap.size w w' := by
  subst hln hno hon hfn
  exact First_calls regs a c l oa oc outs w O Fi C E hO hF hC hE h hl ho hol
theorem CountN (regs : Int) (a : Option Addr) (c ln : Nat) (l : List OpD) (hln : ln = l.length) (oa : Option Addr) (oc n : Nat) (outs : List Int) (hno : n = outs.length) (w : World) (O : List Bool) (Fi : List Int) (C : Nat) (E : Int) (on fn : Nat) (hon : on = O.length) (hfn : fn = Fi.length) (hO : liveO regs l outs = O) (hF : liveF regs l outs = Fi) (hC : liveC regs l outs = C) (hE : liveE regs l outs = E) (h : At w a l) (hl : ln ≤ 1000000) (ho : At w oa outs) (hol : n ≤ 1000000) :
    Calls Try.prog 23 #[.agg #[.int .i64 regs, .slice a ln c], .slice oa n oc] w fun e w' => e = .returned (.tuple #[.int .i64 (C : Int), .int .i64 E]) ∧ Below w.heap.size w w' := by
  subst hln hno hon hfn
  exact Count_calls regs a c l oa oc outs w O Fi C E hO hF hC hE h hl ho hol
def ex16 : Fo := .leaf ⟨6, 1, 0, 0, 0⟩ (.leaf ⟨5, 0, 0, 0, 0⟩ (.leaf ⟨4, 1, 1, 0, 0⟩ .nil))
theorem ex16_good : Good 2 ex16 := good_of_lit (by simp [ex16, Fo.ok]) (by decide)
theorem ex16_live : liveE 2 ex16.flat [1] = 0 ∧ liveO 2 ex16.flat [1] = [true, false, true] ∧ liveF 2 ex16.flat [1] = [0] ∧ liveC 2 ex16.flat [1] = 2 := by
  obtain ⟨h0, h1, h2, h3⟩ := live_good ex16_good (outs := [1]) (by decide)
  rw [h0, h1, h2, h3]
  decide
set_option maxRecDepth 100000 in
set_option maxHeartbeats 3200000 in
theorem goes16_calls (w : World) : Calls Try.prog 19 #[] w fun e w' => e = .returned (.bool true) ∧ Below w.heap.size w w' := by
  have hx0 : At (w.alloc (.cells #[.int .i64 6, .int .i64 1, .int .i64 0, .int .i64 0, .int .u64 0, .int .i64 5, .int .i64 0, .int .i64 0, .int .i64 0, .int .u64 0, .int .i64 4, .int .i64 1, .int .i64 1, .int .i64 0, .int .u64 0] 61)) (some ⟨w.heap.size, 0, none⟩) ex16.flat := At.ofBlk (Blk.new w _ #[.int .i64 6, .int .i64 1, .int .i64 0, .int .i64 0, .int .u64 0, .int .i64 5, .int .i64 0, .int .i64 0, .int .i64 0, .int .u64 0, .int .i64 4, .int .i64 1, .int .i64 1, .int .i64 0, .int .u64 0]) ex16.flat rfl
  have hB0 := below_new12 w (.cells #[.int .i64 6, .int .i64 1, .int .i64 0, .int .i64 0, .int .u64 0, .int .i64 5, .int .i64 0, .int .i64 0, .int .i64 0, .int .u64 0, .int .i64 4, .int .i64 1, .int .i64 1, .int .i64 0, .int .u64 0] 61)
  obtain ⟨w0, hw0⟩ : ∃ w0, w0 = w.alloc (.cells #[.int .i64 6, .int .i64 1, .int .i64 0, .int .i64 0, .int .u64 0, .int .i64 5, .int .i64 0, .int .i64 0, .int .i64 0, .int .u64 0, .int .i64 4, .int .i64 1, .int .i64 1, .int .i64 0, .int .u64 0] 61) := ⟨_, rfl⟩
  have hz0 : w0.heap.size = w.heap.size + 1 := by rw [hw0]; simp
  rw [← hw0] at hx0 hB0
  have hx1 := hx0.belowN (below_new12 w0 (.cells #[.int .i64 2, .slice (some ⟨w.heap.size, 0, none⟩) 3 3] 24))
  have hX1 := Blk.new w0 24 #[.int .i64 2, .slice (some ⟨w.heap.size, 0, none⟩) 3 3]
  have hB1 := hB0.trans ((below_new12 w0 (.cells #[.int .i64 2, .slice (some ⟨w.heap.size, 0, none⟩) 3 3] 24)).mono hB0.size)
  obtain ⟨w1, hw1⟩ : ∃ w1, w1 = w0.alloc (.cells #[.int .i64 2, .slice (some ⟨w.heap.size, 0, none⟩) 3 3] 24) := ⟨_, rfl⟩
  have hz01 : w1.heap.size = w.heap.size + 2 := by rw [hw1]; simp [hz0]
  rw [← hw1] at hx1 hX1 hB1
  rw [hz0] at hX1
  have H1 := hide (show ∀ W : World, At (W.alloc (.cells #[.int .i64 1] 3)) (some ⟨W.heap.size, 0, none⟩) [(1 : Int)] from fun W => At.ofBlk (Blk.new W _ #[.int .i64 1]) [(1 : Int)] rfl)
  have H0 := hide (show ∀ W : World, At (W.alloc (.cells #[.int .i64 0] 3)) (some ⟨W.heap.size, 0, none⟩) [(0 : Int)] from fun W => At.ofBlk (Blk.new W _ #[.int .i64 0]) [(0 : Int)] rfl)
  have HT := hide (show ∀ W : World, At (W.alloc (.cells #[.bool true, .bool false, .bool true] 4)) (some ⟨W.heap.size, 0, none⟩) [true, false, true] from fun W => At.ofBlk (Blk.new W _ #[.bool true, .bool false, .bool true]) [true, false, true] rfl)
  have hL1 : At (w1.alloc (.cells #[.int .i64 1] 3)) (some ⟨w.heap.size + 2, 0, none⟩) [(1 : Int)] := by rw [← hz01]; exact H1.out w1
  have hy1 := hx1.belowN (below_new12 w1 (.cells #[.int .i64 1] 3))
  have hY1 := hX1.belowN (below_new12 w1 (.cells #[.int .i64 1] 3))
  have hC1 := hB1.trans ((below_new12 w1 (.cells #[.int .i64 1] 3)).mono hB1.size)
  obtain ⟨w2, hw2⟩ : ∃ w2, w2 = w1.alloc (.cells #[.int .i64 1] 3) := ⟨_, rfl⟩
  rw [← hw2] at hL1 hy1 hY1 hC1
  have HW2 : Hid ((((w.alloc (.cells #[.int .i64 6, .int .i64 1, .int .i64 0, .int .i64 0, .int .u64 0, .int .i64 5, .int .i64 0, .int .i64 0, .int .i64 0, .int .u64 0, .int .i64 4, .int .i64 1, .int .i64 1, .int .i64 0, .int .u64 0] 61)).alloc (.cells #[.int .i64 2, .slice (some ⟨w.heap.size, 0, none⟩) 3 3] 24)).alloc (.cells #[.int .i64 1] 3)) = w2) := by show _ = _; rw [← hw0, ← hw1, ← hw2]
  have hz2 := hC1.size
  obtain ⟨e0, e1, e2, e3⟩ := ex16_live
  have HE0 := hide e0
  have HE1 := hide e1
  have HE2 := hide e2
  have HE3 := hide e3
  clear hw0 hw1 hw2 hz0 hx0 hB0 hx1 hX1 hB1 e0 e1 e2 e3
  go_enter Try.func19, Try.ntmps19
  go_wp2_with (first
    | (go_at_call 21; rw [HW2.out]; go_must ((with_reducible refine (NeededN 2 _ 3 3 ex16.flat rfl _ 1 1 [1] rfl w2 _ _ _ _ 3 1 rfl rfl HE1.out HE2.out HE3.out HE0.out hy1 (by omega) hL1 (by omega)).mono ?_); rintro e w3 ⟨⟨a3, c3, rfl, hown3⟩, hb3⟩; have hB3 := hC1.trans (hb3.mono hz2); have hz3 := hB3.size; have hY3 := hY1.belowN hb3; obtain ⟨q0, q1, q2, q3⟩ := hY3.c2; have hy3 := (hy1.belowN hb3).belowN (below_new12 w3 (.cells #[.int .i64 1] 3)); have hY3' := hY3.belowN (below_new12 w3 (.cells #[.int .i64 1] 3)); have hown3' := hown3.belowN (below_new12 w3 (.cells #[.int .i64 1] 3)); have hC3 := hB3.trans ((below_new12 w3 (.cells #[.int .i64 1] 3)).mono hz3); have hz3' := hC3.size))
    | (go_at_call 22; go_must ((with_reducible refine (FirstN 2 _ 3 3 ex16.flat rfl _ 1 1 [1] rfl _ _ _ _ _ 3 1 rfl rfl HE1.out HE2.out HE3.out HE0.out hy3 (by omega) (H1.out w3) (by omega)).mono ?_); rintro e w4 ⟨⟨a4, c4, rfl, hown4⟩, hb4⟩; have hB4 := hC3.trans (hb4.mono hz3'); have hz4 := hB4.size; have hY4 := hY3'.belowN hb4; obtain ⟨r0, r1, r2, r3⟩ := hY4.c2; have hy4 := (hy3.belowN hb4).belowN (below_new12 w4 (.cells #[.int .i64 1] 3)); have hown34 := (hown3'.belowN hb4).belowN (below_new12 w4 (.cells #[.int .i64 1] 3)); have hown4' := hown4.belowN (below_new12 w4 (.cells #[.int .i64 1] 3)); have hC4 := hB4.trans ((below_new12 w4 (.cells #[.int .i64 1] 3)).mono hz4); have hz4' := hC4.size))
    | (go_at_call 23; go_must ((with_reducible refine (CountN 2 _ 3 3 ex16.flat rfl _ 1 1 [1] rfl _ _ _ _ _ 3 1 rfl rfl HE1.out HE2.out HE3.out HE0.out hy4 (by omega) (H1.out w4) (by omega)).mono ?_); rintro e w5 ⟨rfl, hb5⟩; have hB5 := hC4.trans (hb5.mono hz4'); have hz5 := hB5.size; have hown35 := (hown34.belowN hb5).at_.belowN (below_new12 w5 (.cells #[.bool true, .bool false, .bool true] 4)); have hown45 := hown4'.belowN hb5))
    | (go_at_call 24; go_must ((with_reducible refine (Bools16N _ _ 3 3 _ _ [true, false, true] _ rfl rfl hown35 (HT.out w5) (by omega)).mono ?_); rintro e w6 ⟨rfl, q6, hw6⟩; have hB6 : Below w.heap.size w w6 := (by rw [hw6]; exact below_drewN (hB5.alloc hz5 _) _); have hown46 : At (w6.alloc (.cells #[.int .i64 0] 3)) a4 [(0 : Int)] := (by rw [hw6]; exact (((hown45.belowN (below_new12 w5 _)).drewN q6).belowN (below_new12 _ _)).at_); have hz6 := hB6.size; clear hw6))
    | (go_at_call 15; go_must ((with_reducible refine (Ints7N _ _ 1 1 _ _ [0] _ rfl rfl hown46 (H0.out w6) (by omega)).mono ?_); rintro e w7 ⟨rfl, q7, rfl⟩)))
  go_ret
  exact ⟨rfl, below_drewN (hB6.alloc hz6 _) _⟩
end Go.Proofs.Ytokkidelbbegjaa
