/- Several texts of mine in one file: G13, G13b. -/
import Derived.Test.YtoklehndfncmnaaQl
import Derived.Test.YtoklehndfncmnaaQb
import Derived.Test.YtoklehndfncmnaaQm
/- Chapter 13: what must come at any rate; the contracts with their results named. -/
namespace Go.Proofs.Ytoklehndfncmnaa
set_option linter.unusedVariables false
set_option linter.unusedSimpArgs false
open Go.RowKit

theorem RunN (regs : Int) (a : Option Addr) (c ln : Nat) (l : List OpD) (ra : Option Addr) (rc rn : Nat) (r : List UInt64) (w : World) (X : List UInt64) (E : Int) (hln : ln = l.length) (hrn : rn = r.length) (hX : uptoS regs l r (-1) = X) (hE : dimsS regs l r.length = E)
    (h : At w a l) (hl : ln ≤ 1000000) (hr : At w ra r) (hrl : rn ≤ 1000000) :
    Calls Try.prog 23 #[.agg #[.int .i64 regs, .slice a ln c], .slice ra rn rc] w fun e w' => ∃ a' c', e = .returned (.tuple #[.slice a' X.length c', .int .i64 E]) ∧ Own w' w.heap.size 32 a' c' X ∧ Below w.heap.size w w' := by
  subst hln hrn hX hE
  exact Run_calls regs a c l ra rc r w h hl hr 
theorem Run13N (regs : Int) (a : Option Addr) (c ln : Nat) (l : List OpD) (ra : Option Addr) (rc rn : Nat) (r : List UInt64) (w : World) (X : List UInt64) (E : Int) (hln : ln = l.length) (hrn : rn = r.length) (hX : uptoS regs l r (-1) = X) (hE : dimsS regs l r.length = E)
    (h : At w a l) (hl : ln ≤ 1000000) (hr : At w ra r) (hrl : rn ≤ 1000000) :
    Calls Try.prog 24 #[.agg #[.int .i64 regs, .slice a ln c], .slice ra rn rc] w fun e w' => ∃ a' c', e = .returned (.tuple #[.slice a' X.length c', .int .i64 E]) ∧ Own w' w.heap.size 32 a' c' X ∧ Below w.heap.size w w' := by
  subst hln hrn hX hE
  exact Run13_calls regs a c l ra rc r w h hl hr hrl
theorem UptoN (regs : Int) (a : Option Addr) (c ln : Nat) (l : List OpD) (ra : Option Addr) (rc rn : Nat) (r : List UInt64) (n m : Int) (hm : m = max n 0) (w : World) (X : List UInt64) (E : Int) (hln : ln = l.length) (hrn : rn = r.length) (hX : uptoS regs l r m = X) (hE : dimsS regs l r.length = E)
    (h : At w a l) (hl : ln ≤ 1000000) (hr : At w ra r) (hrl : rn ≤ 1000000) :
    Calls Try.prog 25 #[.agg #[.int .i64 regs, .slice a ln c], .slice ra rn rc, .int .i64 n] w fun e w' => ∃ a' c', e = .returned (.tuple #[.slice a' X.length c', .int .i64 E]) ∧ Own w' w.heap.size 32 a' c' X ∧ Below w.heap.size w w' := by
  subst hln hrn hX hE
  exact Upto_calls regs a c l ra rc r n m hm w h hl hr
theorem Upto13N (regs : Int) (a : Option Addr) (c ln : Nat) (l : List OpD) (ra : Option Addr) (rc rn : Nat) (r : List UInt64) (n m : Int) (hm : m = n) (w : World) (X : List UInt64) (E : Int) (hln : ln = l.length) (hrn : rn = r.length) (hX : uptoS regs l r m = X) (hE : dimsS regs l r.length = E)
    (h : At w a l) (hl : ln ≤ 1000000) (hr : At w ra r) (hrl : rn ≤ 1000000) :
    Calls Try.prog 26 #[.agg #[.int .i64 regs, .slice a ln c], .slice ra rn rc, .int .i64 n] w fun e w' => ∃ a' c', e = .returned (.tuple #[.slice a' X.length c', .int .i64 E]) ∧ Own w' w.heap.size 32 a' c' X ∧ Below w.heap.size w w' := by
  subst hln hrn hX hE
  subst hm; exact Upto13_calls regs a c l ra rc r m w h hl hr hrl
theorem LastN (regs : Int) (a : Option Addr) (c ln : Nat) (l : List OpD) (ra : Option Addr) (rc rn : Nat) (r : List UInt64) (k : Int) (w : World) (N : Int) (V : UInt64) (E : Int) (hln : ln = l.length) (hrn : rn = r.length) (hN : lastN regs l r.length k = N) (hV : lastV regs l r k = V) (hE : lastE regs l r.length k = E)
    (h : At w a l) (hl : ln ≤ 1000000) (hr : At w ra r) (hrl : rn ≤ 1000000) :
    Calls Try.prog 28 #[.agg #[.int .i64 regs, .slice a ln c], .slice ra rn rc, .int .i64 k] w fun e w' => e = .returned (.tuple #[.int .i64 N, .int .u64 (V.toNat : Int), .int .i64 E]) ∧ Below w.heap.size w w' := by
  subst hln hrn hN hV hE
  exact Last_calls regs a c l ra rc r k w h hl hr
theorem Last13N (regs : Int) (a : Option Addr) (c ln : Nat) (l : List OpD) (ra : Option Addr) (rc rn : Nat) (r : List UInt64) (k : Int) (w : World) (N : Int) (V : UInt64) (E : Int) (hln : ln = l.length) (hrn : rn = r.length) (hN : lastN regs l r.length k = N) (hV : lastV regs l r k = V) (hE : lastE regs l r.length k = E)
    (h : At w a l) (hl : ln ≤ 1000000) (hr : At w ra r) (hrl : rn ≤ 1000000) :
    Calls Try.prog 29 #[.agg #[.int .i64 regs, .slice a ln c], .slice ra rn rc, .int .i64 k] w fun e w' => e = .returned (.tuple #[.int .i64 N, .int .u64 (V.toNat : Int), .int .i64 E]) ∧ Below w.heap.size w w' := by
  subst hln hrn hN hV hE
  exact Last13_calls regs a c l ra rc r k w h hl hr hrl

noncomputable def small13 (regs : Int) (l : List OpD) (most : Int) : Bool := decide ((l.length : Int) ≤ most) && (decide (checkS regs l ≠ 0) || decide ((unrS regs l).length ≤ 3000))
theorem Small13_calls (regs : Int) (a : Option Addr) (c : Nat) (l : List OpD) (most : Int) (B : Bool) (hB : small13 regs l most = B) (w : World) (h : At w a l) (hm : most ≤ 1000000) :
    Calls Try.prog 21 #[.agg #[.int .i64 regs, .slice a l.length c], .int .i64 most] w fun e w' => e = .returned (.bool B) ∧ Below w.heap.size w w' := by
  have hb0 := below_new12 w (.cells #[.int .i64 regs, .slice a l.length c] 24)
  have h1 := h.belowN hb0
  subst hB
  unfold small13
  by_cases h0 : (l.length : Int) ≤ most
  · obtain ⟨R, hR⟩ : ∃ R, unrS regs l = R := ⟨_, rfl⟩
    obtain ⟨E, hE⟩ : ∃ E, checkS regs l = E := ⟨_, rfl⟩
    rw [hR, hE]
    have HR := hide hR
    have HE := hide hE
    have hRl := unrS_le regs l
    rw [hR] at hRl
    clear hR hE
    by_cases hc : E = 0
    · subst hc
      go_enter Try.func21, Try.ntmps21
      go_wp2_with (go_at_call 15; (with_reducible refine (UnrollR regs a c l _ R 0 HR.out HE.out h1 (by omega)).mono ?_); rintro e w1 ⟨a1, c1, rfl, hown1, hb1⟩)
      go_ret
      exact ⟨by simp [h0]; omega, hb0.trans (hb1.mono hb0.size)⟩
    · have e2 : (E != 0) = true := by simpa using hc
      have HH := hide hc
      clear hc
      go_enter Try.func21, Try.ntmps21
      go_wp2_with (go_at_call 15; (with_reducible refine (UnrollR regs a c l _ R E HR.out HE.out h1 (by omega)).mono ?_); rintro e w1 ⟨a1, c1, rfl, hown1, hb1⟩)
      go_ret
      exact ⟨by simp [h0, HH.out], hb0.trans (hb1.mono hb0.size)⟩
  · go_enter Try.func21, Try.ntmps21
    go_wp2
    go_ret
    exact ⟨by rw [decide_eq_false (by omega), Bool.false_and]; rfl, hb0⟩

def ex13 : Fo := .rep ⟨7, 0, 0, 0, 3⟩ (.leaf ⟨3, 0, 0, 1, 0⟩ .nil) ⟨0, 0, 0, 0, 0⟩ .nil
theorem ex13_good : Good 2 ex13 := good_of_lit (by simp [ex13, Fo.ok]) (by decide)
theorem ex13_unr : ex13.unroll = [⟨3, 0, 0, 1, 0⟩, ⟨3, 0, 0, 1, 0⟩, ⟨3, 0, 0, 1, 0⟩] := by decide
theorem ex13_dims : dimsS 2 ex13.flat [(5 : UInt64), 2].length = 0 := dims_of_good ex13_good (by decide)
theorem ex13_run : uptoS 2 ex13.flat [5, 2] (-1) = [40, 2] := by rw [uptoS_good ex13_good (by decide), ex13_unr]; decide
theorem ex13_upto : uptoS 2 ex13.flat [5, 2] 2 = [20, 2] := by rw [uptoS_good ex13_good (by decide), ex13_unr]; decide
theorem ex13_lastE : lastE 2 ex13.flat [(5 : UInt64), 2].length 0 = 0 := by unfold lastE; rw [ex13_dims]; decide
theorem ex13_lastN : lastN 2 ex13.flat [(5 : UInt64), 2].length 0 = 2 := by unfold lastN; rw [ex13_lastE, if_pos rfl, unrS_good ex13_good, ex13_unr]; decide
theorem ex13_lastV : lastV 2 ex13.flat [5, 2] 0 = 40 := by unfold lastV; rw [ex13_lastE, if_pos rfl, ex13_run]; decide

set_option maxRecDepth 100000 in
set_option maxHeartbeats 3200000 in
theorem goes13_calls (w : World) : Calls Try.prog 22 #[] w fun e w' => e = .returned (.bool true) ∧ Below w.heap.size w w' := by
  have hx0 : At (w.alloc (.cells #[.int .i64 7, .int .i64 0, .int .i64 0, .int .i64 0, .int .u64 3, .int .i64 3, .int .i64 0, .int .i64 0, .int .i64 1, .int .u64 0, .int .i64 0, .int .i64 0, .int .i64 0, .int .i64 0, .int .u64 0] 34)) (some ⟨w.heap.size, 0, none⟩) ex13.flat := At.ofBlk (Blk.new w _ #[.int .i64 7, .int .i64 0, .int .i64 0, .int .i64 0, .int .u64 3, .int .i64 3, .int .i64 0, .int .i64 0, .int .i64 1, .int .u64 0, .int .i64 0, .int .i64 0, .int .i64 0, .int .i64 0, .int .u64 0]) ex13.flat rfl
  have hB0 := below_new12 w (.cells #[.int .i64 7, .int .i64 0, .int .i64 0, .int .i64 0, .int .u64 3, .int .i64 3, .int .i64 0, .int .i64 0, .int .i64 1, .int .u64 0, .int .i64 0, .int .i64 0, .int .i64 0, .int .i64 0, .int .u64 0] 34)
  obtain ⟨w0, hw0⟩ : ∃ w0, w0 = w.alloc (.cells #[.int .i64 7, .int .i64 0, .int .i64 0, .int .i64 0, .int .u64 3, .int .i64 3, .int .i64 0, .int .i64 0, .int .i64 1, .int .u64 0, .int .i64 0, .int .i64 0, .int .i64 0, .int .i64 0, .int .u64 0] 34) := ⟨_, rfl⟩
  have hz0 : w0.heap.size = w.heap.size + 1 := by rw [hw0]; simp
  rw [← hw0] at hx0 hB0
  have hx1 := hx0.belowN (below_new12 w0 (.cells #[.int .i64 2, .slice (some ⟨w.heap.size, 0, none⟩) 3 3] 24))
  have hX1 := Blk.new w0 24 #[.int .i64 2, .slice (some ⟨w.heap.size, 0, none⟩) 3 3]
  have hB1 := hB0.trans ((below_new12 w0 (.cells #[.int .i64 2, .slice (some ⟨w.heap.size, 0, none⟩) 3 3] 24)).mono hB0.size)
  obtain ⟨w1, hw1⟩ : ∃ w1, w1 = w0.alloc (.cells #[.int .i64 2, .slice (some ⟨w.heap.size, 0, none⟩) 3 3] 24) := ⟨_, rfl⟩
  have hz01 : w1.heap.size = w.heap.size + 2 := by rw [hw1]; simp [hz0]
  rw [← hw1] at hx1 hX1 hB1
  rw [hz0] at hX1
  have hL1 : At (w1.alloc (.cells #[.int .u64 5, .int .u64 2] 32)) (some ⟨w.heap.size + 2, 0, none⟩) [(5 : UInt64), 2] := by rw [← hz01]; exact At.ofBlk (Blk.new w1 _ #[.int .u64 5, .int .u64 2]) [(5 : UInt64), 2] rfl
  have hy1 := hx1.belowN (below_new12 w1 (.cells #[.int .u64 5, .int .u64 2] 32))
  have hY1 := hX1.belowN (below_new12 w1 (.cells #[.int .u64 5, .int .u64 2] 32))
  have hC1 := hB1.trans ((below_new12 w1 (.cells #[.int .u64 5, .int .u64 2] 32)).mono hB1.size)
  obtain ⟨w2, hw2⟩ : ∃ w2, w2 = w1.alloc (.cells #[.int .u64 5, .int .u64 2] 32) := ⟨_, rfl⟩
  rw [← hw2] at hL1 hy1 hY1 hC1
  have HW2 : Hid ((((w.alloc (.cells #[.int .i64 7, .int .i64 0, .int .i64 0, .int .i64 0, .int .u64 3, .int .i64 3, .int .i64 0, .int .i64 0, .int .i64 1, .int .u64 0, .int .i64 0, .int .i64 0, .int .i64 0, .int .i64 0, .int .u64 0] 34)).alloc (.cells #[.int .i64 2, .slice (some ⟨w.heap.size, 0, none⟩) 3 3] 24)).alloc (.cells #[.int .u64 5, .int .u64 2] 32)) = w2) := by show _ = _; rw [← hw0, ← hw1, ← hw2]
  have hz2 := hC1.size
  clear hw0 hw1 hw2 hz0 hx0 hB0 hx1 hX1 hB1
  have h5 : ∀ W : World, At (W.alloc (.cells #[.int .u64 5, .int .u64 2] 32)) (some ⟨W.heap.size, 0, none⟩) [(5 : UInt64), 2] := fun W => At.ofBlk (Blk.new W _ #[.int .u64 5, .int .u64 2]) [(5 : UInt64), 2] rfl
  have h40 : ∀ W : World, At (W.alloc (.cells #[.int .u64 40, .int .u64 2] 32)) (some ⟨W.heap.size, 0, none⟩) [(40 : UInt64), 2] := fun W => At.ofBlk (Blk.new W _ #[.int .u64 40, .int .u64 2]) [(40 : UInt64), 2] rfl
  have h20 : ∀ W : World, At (W.alloc (.cells #[.int .u64 20, .int .u64 2] 32)) (some ⟨W.heap.size, 0, none⟩) [(20 : UInt64), 2] := fun W => At.ofBlk (Blk.new W _ #[.int .u64 20, .int .u64 2]) [(20 : UInt64), 2] rfl
  have H5 := hide h5
  have H40 := hide h40
  have H20 := hide h20
  clear h5 h40 h20
  go_enter Try.func22, Try.ntmps22
  go_wp2_with (first
    | (go_at_call 23; rw [HW2.out]; go_must ((with_reducible refine (RunN 2 _ 3 3 ex13.flat _ 2 2 [5, 2] w2 [40, 2] 0 rfl rfl ex13_run ex13_dims hy1 (by omega) hL1 (by omega)).mono ?_); rintro e w3 ⟨a3, c3, rfl, hown3, hb3⟩; have hB3 := hC1.trans (hb3.mono hz2); have hz3 := hB3.size; have hY3 := hY1.belowN hb3; obtain ⟨q0, q1, q2, q3⟩ := hY3.c2; have hy3 := (hy1.belowN hb3).belowN (below_new12 w3 (.cells #[.int .u64 5, .int .u64 2] 32)); have hY3' := hY3.belowN (below_new12 w3 (.cells #[.int .u64 5, .int .u64 2] 32)); have hown3' := hown3.belowN (below_new12 w3 (.cells #[.int .u64 5, .int .u64 2] 32)); have hC3 := hB3.trans ((below_new12 w3 (.cells #[.int .u64 5, .int .u64 2] 32)).mono hz3); have hz3' := hC3.size))
    | (go_at_call 25; go_must ((with_reducible refine (UptoN 2 _ 3 3 ex13.flat _ 2 2 [5, 2] 2 2 (by decide) _ [20, 2] 0 rfl rfl ex13_upto ex13_dims hy3 (by omega) (H5.out w3) (by omega)).mono ?_); rintro e w4 ⟨a4, c4, rfl, hown4, hb4⟩; have hB4 := hC3.trans (hb4.mono hz3'); have hz4 := hB4.size; have hY4 := hY3'.belowN hb4; obtain ⟨r0, r1, r2, r3⟩ := hY4.c2; have hy4 := (hy3.belowN hb4).belowN (below_new12 w4 (.cells #[.int .u64 5, .int .u64 2] 32)); have hown34 := (hown3'.belowN hb4).belowN (below_new12 w4 (.cells #[.int .u64 5, .int .u64 2] 32)); have hown4' := hown4.belowN (below_new12 w4 (.cells #[.int .u64 5, .int .u64 2] 32)); have hC4 := hB4.trans ((below_new12 w4 (.cells #[.int .u64 5, .int .u64 2] 32)).mono hz4); have hz4' := hC4.size))
    | (go_at_call 28; go_must ((with_reducible refine (LastN 2 _ 3 3 ex13.flat _ 2 2 [5, 2] 0 _ 2 40 0 rfl rfl ex13_lastN ex13_lastV ex13_lastE hy4 (by omega) (H5.out w4) (by omega)).mono ?_); rintro e w5 ⟨rfl, hb5⟩; have hB5 := hC4.trans (hb5.mono hz4'); have hz5 := hB5.size; have hown35 := (hown34.belowN hb5).at_.belowN (below_new12 w5 (.cells #[.int .u64 40, .int .u64 2] 32)); have hown45 := hown4'.belowN hb5))
    | (go_at_call 27; first
        | ((with_reducible refine (Same5N _ _ 2 2 _ _ [20, 2] _ rfl rfl hown46 (H20.out w6) (by omega)).mono ?_); rintro e w7 ⟨rfl, q7, rfl⟩)
        | go_must ((with_reducible refine (Same5N _ _ 2 2 _ _ [40, 2] _ rfl rfl hown35 (H40.out w5) (by omega)).mono ?_); rintro e w6 ⟨rfl, q6, hw6⟩; have hB6 : Below w.heap.size w w6 := (by rw [hw6]; exact below_drewN (hB5.alloc hz5 _) _); have hown46 : At (w6.alloc (.cells #[.int .u64 20, .int .u64 2] 32)) a4 [(20 : UInt64), 2] := (by rw [hw6]; exact (((hown45.belowN (below_new12 w5 _)).drewN q6).belowN (below_new12 _ _)).at_); have hz6 := hB6.size; clear hw6)))
  go_ret
  exact ⟨rfl, below_drewN (hB6.alloc hz6 _) _⟩
end Go.Proofs.Ytoklehndfncmnaa

/- Chapter 13: ForwardRuns, ForwardLast. -/
namespace Go.Proofs.Ytoklehndfncmnaa
set_option linter.unusedVariables false
set_option linter.unusedSimpArgs false
open Go.RowKit

theorem small_le {regs : Int} {l : List OpD} {m : Int} (h : small13 regs l m = true) : (l.length : Int) ≤ m := by
  unfold small13 at h
  simp only [Bool.and_eq_true, decide_eq_true_eq] at h
  exact h.1
theorem small_few {regs : Int} {l : List OpD} {m : Int} (h : small13 regs l m = true) : (unrS regs l).length ≤ 3000 := by
  unfold small13 at h
  simp only [Bool.and_eq_true, Bool.or_eq_true, decide_eq_true_eq] at h
  rcases h.2 with h1 | h1
  · rw [unrS_bad h1]; simp
  · exact h1
theorem uptoS_len (regs : Int) (l : List OpD) (r : List UInt64) (m : Int) : (uptoS regs l r m).length ≤ 64 := by
  by_cases h : dimsS regs l r.length = 0
  · obtain ⟨f, rfl, g, hn⟩ := dims_good h
    rw [uptoS_good g hn, runR_length, startR_length _ _ (by omega)]
    have := g.r2; omega
  · rw [uptoS_bad h]; simp
set_option maxRecDepth 100000 in
set_option maxHeartbeats 3200000 in
theorem ForwardRuns_calls (regs : Int) (a : Option Addr) (c : Nat) (l : List OpD) (ra : Option Addr) (rc : Nat) (r : List UInt64) (n : Int) (w : World) (h : At w a l) (hr : At w ra r) :
    Calls Try.prog 7 #[.agg #[.int .i64 regs, .slice a l.length c], .slice ra r.length rc, .int .i64 n] w fun e w' => e = .returned (.bool true) ∧ Below w.heap.size w w' := by
  have hb0 := below_new12 w (.cells #[.int .i64 regs, .slice a l.length c] 24)
  have hX := Blk.new w 24 #[.int .i64 regs, .slice a l.length c]
  have h1 := h.belowN hb0
  have hr1 := hr.belowN hb0
  by_cases hg : r.length ≤ 100
  · cases hs : small13 regs l 100 with
    | false =>
      have HS := hide hs
      clear hs
      go_enter Try.func7, Try.ntmps7
      go_wp2_with (first
        | (go_at_call 21; (with_reducible refine (Small13_calls regs a c l _ false HS.out _ h1 (by omega)).mono ?_); rintro e w1 ⟨rfl, hb1⟩; have hB1 := hb0.trans (hb1.mono hb0.size); have hz1 := hB1.size)
        | (go_at_call 22; (with_reducible refine (goes13_calls _).mono ?_); rintro e w8 ⟨rfl, hbel8⟩))
      go_ret
      first
        | exact ⟨rfl, hB1.trans (hbel8.mono hz1)⟩
        | exact ⟨rfl, hb0.trans (hbel8.mono hb0.size)⟩
    | true =>
      have hsl := small_le hs
      have HS := hide hs
      have hx64 := uptoS_len regs l r (-1)
      have hy64 := uptoS_len regs l r (max n 0)
      obtain ⟨X, hXX⟩ : ∃ X, uptoS regs l r (-1) = X := ⟨_, rfl⟩
      obtain ⟨Y, hY⟩ : ∃ Y, uptoS regs l r (max n 0) = Y := ⟨_, rfl⟩
      obtain ⟨E, hE⟩ : ∃ E, dimsS regs l r.length = E := ⟨_, rfl⟩
      rw [hXX] at hx64
      rw [hY] at hy64
      have HXX := hide hXX
      have HY := hide hY
      have HE := hide hE
      clear hXX hY hE hs
      have HUP : Hid (∀ (m : Int), m = max n 0 → uptoS regs l r m = Y) := fun m hm => by rw [hm]; exact HY.out
      have hmx : (n < 0 ∧ max n 0 = 0) ∨ (0 ≤ n ∧ max n 0 = n) := by omega
      rcases hmx with ⟨hn0, hm0⟩ | ⟨hn0, hm0⟩
      · have HM := hide hm0.symm
        clear hm0
        go_enter Try.func7, Try.ntmps7
        go_wp2_with (first
          | (go_at_call 21; (with_reducible refine (Small13_calls regs a c l _ true HS.out _ h1 (by omega)).mono ?_); rintro e w1 ⟨rfl, hb1⟩; have hB1 := hb0.trans (hb1.mono hb0.size); have hz1 := hB1.size; have hX1 := hX.belowN hb1; have h2 := h1.belowN hb1; have hr2 := hr1.belowN hb1; obtain ⟨p0, p1, p2, p3⟩ := hX1.c2)
          | (go_at_call 23; go_must ((with_reducible refine (RunN regs _ _ _ l _ _ _ r _ X E rfl rfl HXX.out HE.out h2 (by omega) hr2 (by omega)).mono ?_); rintro e w2 ⟨a2, c2, rfl, hown2, hb2⟩; have hB2 := hB1.trans (hb2.mono hz1); have hz2 := hB2.size; have hX2 := hX1.belowN hb2; have h3 := h2.belowN hb2; have hr3 := hr2.belowN hb2; obtain ⟨q0, q1, q2, q3⟩ := hX2.c2))
          | (go_at_call 24; go_must ((with_reducible refine (Run13N regs _ _ _ l _ _ _ r _ X E rfl rfl HXX.out HE.out h3 (by omega) hr3 (by omega)).mono ?_); rintro e w3 ⟨a3, c3, rfl, hown3, hb3⟩; have hB3 := hB2.trans (hb3.mono hz2); have hz3 := hB3.size; have hX3 := hX2.belowN hb3; have h4 := h3.belowN hb3; have hr4 := hr3.belowN hb3; have hown23 := hown2.belowN hb3; obtain ⟨r0, r1, r2, r3⟩ := hX3.c2))
          | (go_at_call 25; go_must ((with_reducible refine (UptoN regs _ _ _ l _ _ _ r n 0 HM.out _ Y E rfl rfl (HUP.out _ HM.out) HE.out h4 (by omega) hr4 (by omega)).mono ?_); rintro e w4 ⟨a4, c4, rfl, hown4, hb4⟩; have hB4 := hB3.trans (hb4.mono hz3); have hz4 := hB4.size; have hX4 := hX3.belowN hb4; have h5 := h4.belowN hb4; have hr5 := hr4.belowN hb4; have hown24 := hown23.belowN hb4; have hown34 := hown3.belowN hb4; obtain ⟨s0, s1, s2, s3⟩ := hX4.c2))
          | (go_at_call 26; go_must ((with_reducible refine (Upto13N regs _ _ _ l _ _ _ r 0 _ rfl _ Y E rfl rfl (HUP.out _ HM.out) HE.out h5 (by omega) hr5 (by omega)).mono ?_); rintro e w5 ⟨a5, c5, rfl, hown5, hb5⟩; have hB5 := hB4.trans (hb5.mono hz4); have hz5 := hB5.size; have hm2 := (hown24.belowN hb5).at_; have hm3 := (hown34.belowN hb5).at_; have hm4 := (hown4.belowN hb5).at_; have hm5 := hown5.at_))
          | (go_at_call 27; first
              | ((with_reducible refine (Same5N _ _ _ _ _ _ Y _ rfl rfl (hm4.drewN q6) (hm5.drewN q6) (by omega)).mono ?_); rintro e w7 ⟨rfl, q7, rfl⟩)
              | go_must ((with_reducible refine (Same5N _ _ _ _ _ _ X _ rfl rfl hm2 hm3 (by omega)).mono ?_); rintro e w6 ⟨rfl, q6, rfl⟩))
          | (go_at_call 22; (with_reducible refine (goes13_calls _).mono ?_); rintro e w8 ⟨rfl, hbel8⟩))
        go_ret
        exact ⟨rfl, (below_drewN hB5 _).trans (hbel8.mono (by simp; omega))⟩
      · have HM := hide hm0.symm
        clear hm0
        go_enter Try.func7, Try.ntmps7
        go_wp2_with (first
          | (go_at_call 21; (with_reducible refine (Small13_calls regs a c l _ true HS.out _ h1 (by omega)).mono ?_); rintro e w1 ⟨rfl, hb1⟩; have hB1 := hb0.trans (hb1.mono hb0.size); have hz1 := hB1.size; have hX1 := hX.belowN hb1; have h2 := h1.belowN hb1; have hr2 := hr1.belowN hb1; obtain ⟨p0, p1, p2, p3⟩ := hX1.c2)
          | (go_at_call 23; go_must ((with_reducible refine (RunN regs _ _ _ l _ _ _ r _ X E rfl rfl HXX.out HE.out h2 (by omega) hr2 (by omega)).mono ?_); rintro e w2 ⟨a2, c2, rfl, hown2, hb2⟩; have hB2 := hB1.trans (hb2.mono hz1); have hz2 := hB2.size; have hX2 := hX1.belowN hb2; have h3 := h2.belowN hb2; have hr3 := hr2.belowN hb2; obtain ⟨q0, q1, q2, q3⟩ := hX2.c2))
          | (go_at_call 24; go_must ((with_reducible refine (Run13N regs _ _ _ l _ _ _ r _ X E rfl rfl HXX.out HE.out h3 (by omega) hr3 (by omega)).mono ?_); rintro e w3 ⟨a3, c3, rfl, hown3, hb3⟩; have hB3 := hB2.trans (hb3.mono hz2); have hz3 := hB3.size; have hX3 := hX2.belowN hb3; have h4 := h3.belowN hb3; have hr4 := hr3.belowN hb3; have hown23 := hown2.belowN hb3; obtain ⟨r0, r1, r2, r3⟩ := hX3.c2))
          | (go_at_call 25; go_must ((with_reducible refine (UptoN regs _ _ _ l _ _ _ r n n HM.out _ Y E rfl rfl (HUP.out _ HM.out) HE.out h4 (by omega) hr4 (by omega)).mono ?_); rintro e w4 ⟨a4, c4, rfl, hown4, hb4⟩; have hB4 := hB3.trans (hb4.mono hz3); have hz4 := hB4.size; have hX4 := hX3.belowN hb4; have h5 := h4.belowN hb4; have hr5 := hr4.belowN hb4; have hown24 := hown23.belowN hb4; have hown34 := hown3.belowN hb4; obtain ⟨s0, s1, s2, s3⟩ := hX4.c2))
          | (go_at_call 26; go_must ((with_reducible refine (Upto13N regs _ _ _ l _ _ _ r n _ rfl _ Y E rfl rfl (HUP.out _ HM.out) HE.out h5 (by omega) hr5 (by omega)).mono ?_); rintro e w5 ⟨a5, c5, rfl, hown5, hb5⟩; have hB5 := hB4.trans (hb5.mono hz4); have hz5 := hB5.size; have hm2 := (hown24.belowN hb5).at_; have hm3 := (hown34.belowN hb5).at_; have hm4 := (hown4.belowN hb5).at_; have hm5 := hown5.at_))
          | (go_at_call 27; first
              | ((with_reducible refine (Same5N _ _ _ _ _ _ Y _ rfl rfl (hm4.drewN q6) (hm5.drewN q6) (by omega)).mono ?_); rintro e w7 ⟨rfl, q7, rfl⟩)
              | go_must ((with_reducible refine (Same5N _ _ _ _ _ _ X _ rfl rfl hm2 hm3 (by omega)).mono ?_); rintro e w6 ⟨rfl, q6, rfl⟩))
          | (go_at_call 22; (with_reducible refine (goes13_calls _).mono ?_); rintro e w8 ⟨rfl, hbel8⟩))
        go_ret
        exact ⟨rfl, (below_drewN hB5 _).trans (hbel8.mono (by simp; omega))⟩
  · go_enter Try.func7, Try.ntmps7
    go_wp2_with (go_at_call 22; (with_reducible refine (goes13_calls _).mono ?_); rintro e w8 ⟨rfl, hbel8⟩)
    go_ret
    exact ⟨rfl, hb0.trans (hbel8.mono hb0.size)⟩
set_option maxRecDepth 100000 in
set_option maxHeartbeats 3200000 in
theorem ForwardLast_calls (regs : Int) (a : Option Addr) (c : Nat) (l : List OpD) (ra : Option Addr) (rc : Nat) (r : List UInt64) (n : Int) (w : World) (h : At w a l) (hr : At w ra r) :
    Calls Try.prog 8 #[.agg #[.int .i64 regs, .slice a l.length c], .slice ra r.length rc, .int .i64 n] w fun e w' => e = .returned (.bool true) ∧ Below w.heap.size w w' := by
  have hb0 := below_new12 w (.cells #[.int .i64 regs, .slice a l.length c] 24)
  have hX := Blk.new w 24 #[.int .i64 regs, .slice a l.length c]
  have h1 := h.belowN hb0
  have hr1 := hr.belowN hb0
  by_cases hg : r.length ≤ 100
  · cases hs : small13 regs l 100 with
    | false =>
      have HS := hide hs
      clear hs
      go_enter Try.func8, Try.ntmps8
      go_wp2_with (first
        | (go_at_call 21; (with_reducible refine (Small13_calls regs a c l _ false HS.out _ h1 (by omega)).mono ?_); rintro e w1 ⟨rfl, hb1⟩; have hB1 := hb0.trans (hb1.mono hb0.size); have hz1 := hB1.size)
        | (go_at_call 22; (with_reducible refine (goes13_calls _).mono ?_); rintro e w8 ⟨rfl, hbel8⟩))
      go_ret
      first
        | exact ⟨rfl, hB1.trans (hbel8.mono hz1)⟩
        | exact ⟨rfl, hb0.trans (hbel8.mono hb0.size)⟩
    | true =>
      have hsl := small_le hs
      have HS := hide hs
      obtain ⟨N, hN⟩ : ∃ N, lastN regs l r.length n = N := ⟨_, rfl⟩
      obtain ⟨V, hV⟩ : ∃ V, lastV regs l r n = V := ⟨_, rfl⟩
      obtain ⟨E, hE⟩ : ∃ E, lastE regs l r.length n = E := ⟨_, rfl⟩
      have HN := hide hN
      have HV := hide hV
      have HE := hide hE
      clear hN hV hE hs
      go_enter Try.func8, Try.ntmps8
      go_wp2_with (first
        | (go_at_call 21; (with_reducible refine (Small13_calls regs a c l _ true HS.out _ h1 (by omega)).mono ?_); rintro e w1 ⟨rfl, hb1⟩; have hB1 := hb0.trans (hb1.mono hb0.size); have hz1 := hB1.size; have hX1 := hX.belowN hb1; have h2 := h1.belowN hb1; have hr2 := hr1.belowN hb1; obtain ⟨p0, p1, p2, p3⟩ := hX1.c2)
        | (go_at_call 28; go_must ((with_reducible refine (LastN regs _ _ _ l _ _ _ r n _ N V E rfl rfl HN.out HV.out HE.out h2 (by omega) hr2 (by omega)).mono ?_); rintro e w2 ⟨rfl, hb2⟩; have hB2 := hB1.trans (hb2.mono hz1); have hz2 := hB2.size; have hX2 := hX1.belowN hb2; have h3 := h2.belowN hb2; have hr3 := hr2.belowN hb2; obtain ⟨q0, q1, q2, q3⟩ := hX2.c2))
        | (go_at_call 29; go_must ((with_reducible refine (Last13N regs _ _ _ l _ _ _ r n _ N V E rfl rfl HN.out HV.out HE.out h3 (by omega) hr3 (by omega)).mono ?_); rintro e w3 ⟨rfl, hb3⟩; have hB3 := hB2.trans (hb3.mono hz2); have hz3 := hB3.size))
        | (go_at_call 22; (with_reducible refine (goes13_calls _).mono ?_); rintro e w8 ⟨rfl, hbel8⟩))
      go_ret
      exact ⟨rfl, hB3.trans (hbel8.mono hz3)⟩
  · go_enter Try.func8, Try.ntmps8
    go_wp2_with (go_at_call 22; (with_reducible refine (goes13_calls _).mono ?_); rintro e w8 ⟨rfl, hbel8⟩)
    go_ret
    exact ⟨rfl, hb0.trans (hbel8.mono hb0.size)⟩
end Go.Proofs.Ytoklehndfncmnaa
