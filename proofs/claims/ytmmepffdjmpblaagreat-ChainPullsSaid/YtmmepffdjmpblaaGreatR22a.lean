/- Chapter 22, the document's answers: Back. -/
import Derived.Test.YtmmepffdjmpblaaGreatR21c
import Derived.Test.YtmmepffdjmpblaaGreatS22c
import Derived.Test.YtmmepffdjmpblaaGreatRg2
namespace Go.Proofs.YtmmepffdjmpblaaGreat
set_option linter.unusedVariables false
set_option linter.unusedSimpArgs false
open Go.RowKit

theorem set_self (l : List UInt64) (i : Int) : l.set i.toNat (getR l i + 0) = l := by
  rw [UInt64.add_zero]
  unfold getR
  by_cases h : i.toNat < l.length
  · rw [List.getElem?_eq_getElem h]; simp
  · rw [List.set_eq_of_length_le (by omega)]
/-- what is asked for, and what it does to partials -/
theorem asks_part (x : OpD) (a b : UInt64) (h1 : 1 ≤ x.kind) (h2 : x.kind ≤ 6) :
    (aOf x.kind = true ∧ bOf x.kind = true) ∨ (aOf x.kind = true ∧ bOf x.kind = false ∧ (partU x a b).2 = 0) ∨ (aOf x.kind = false ∧ bOf x.kind = false ∧ (partU x a b).1 = 0 ∧ (partU x a b).2 = 0) := by
  obtain ⟨k, d, xa, xb, v⟩ := x
  simp only at h1 h2 ⊢
  rcases kind8 k with h | rfl | rfl | rfl | rfl | rfl | rfl | rfl | rfl | h <;> first | omega | (left; exact ⟨rfl, rfl⟩) | (right; left; exact ⟨rfl, rfl, rfl⟩) | (right; right; exact ⟨rfl, rfl, rfl, rfl⟩)
set_option maxRecDepth 100000 in
set_option maxHeartbeats 1600000 in
theorem RBack_bad (regs : Int) (a : Option Addr) (c : Nat) (l : List OpD) (E : Int) (ra : Option Addr) (nr cr : Nat) (r : List UInt64) (hnr : nr = r.length) (aa : Option Addr) (na ca : Nat) (w0 : List UInt64) (hna : na = w0.length) (ta : Option Addr) (nt ct : Nat) (w : World) (h : At w a l) (hl : (l).length ≤ 1000000) (hr : At w ra r) (ha : At w aa w0) (b4 : nr ≤ 1000000) (b5 : na ≤ 1000000) (hnt6 : nt ≤ 1000000) (hE : checkS regs l = E) (hc : E ≠ 0) :
    Calls Tryz.prog 49 #[.agg #[.int .i64 regs, .slice a (l).length c], .slice ra nr cr, .slice aa na ca, .slice ta nt ct] w fun e w' => ∃ a1 c1 a2 c2, e = .returned (.tuple #[.slice a1 nr c1, .slice a2 na c2, .int .i64 E]) ∧ Own w' w.heap.size 50 a1 c1 r ∧ Own w' w.heap.size 50 a2 c2 w0 ∧ Below w.heap.size w w' := by
  have h1 := h.belowN (below_new12 w (.cells #[.int .i64 regs, .slice a (l).length c] 24))
  have hb0 := below_new12 w (.cells #[.int .i64 regs, .slice a (l).length c] 24)
  have hX := Blk.new w 24 #[.int .i64 regs, .slice a (l).length c]
  have hr1 := hr.belowN hb0
  have ha1 := ha.belowN hb0
  have HC1 := hide (fun W (h : At W ra r) => Copy21_calls ra cr r W h (by omega))
  have HC2 := hide (fun W (h : At W aa w0) => Copy21_calls aa ca w0 W h (by omega))
  rw [← hnr] at HC1
  rw [← hna] at HC2
  clear hnr hna
  have HP := hide (Unroll12R regs a c l _ _ E rfl hE h1 hl); have e1 : (E == 0) = false := (by simpa using hc); have e2 : (E != 0) = true := (by simpa using hc); clear hE hc
  obtain ⟨P, hP⟩ : ∃ P, P = (fun e w' => ∃ a1 c1 a2 c2, e = Ending.returned (.tuple #[.slice a1 nr c1, .slice a2 na c2, .int .i64 (E)]) ∧ Own w' w.heap.size 50 a1 c1 r ∧ Own w' w.heap.size 50 a2 c2 w0 ∧ Below w.heap.size w w') := ⟨_, rfl⟩
  rw [← hP]
  have HPP := hide hP
  clear hP
  go_enter Tryz.func49, Tryz.ntmps49
  go_wp2_with (first
    | (go_at_call 46; go_must ((with_reducible refine (HP.out).mono ?_); rintro e w1 ⟨a1, c1, rfl, hown1, hC1⟩; have hz1 := hC1.size; obtain ⟨q0, q1, q2, q3⟩ := (hX.belowN hC1).c2))
    | (go_at_call 68; first
        | (have hgd := w2; go_must ((with_reducible refine (HC2.out _ (ha1.belowN hC2)).mono ?_); rintro e w3 ⟨a3, c3, rfl, hown3, hb3⟩; have hC3 := hC2.trans (hb3.mono hC2.size); obtain ⟨q0, q1, q2, q3⟩ := (hX.belowN hC3).c2))
        | go_must ((with_reducible refine (HC1.out _ (hr1.belowN hC1)).mono ?_); rintro e w2 ⟨a2, c2, rfl, hown2, hb2⟩; have hC2 := hC1.trans (hb2.mono hC1.size))))
  go_ret3
  rw [HPP.out]
  have hz3 := hC3.size
  simp only [World.size_alloc] at hz3
  exact ⟨a2, c2, a3, c3, rfl, (hown2.belowN hb3).mono (by have := hC1.size; simp at this; omega), hown3.mono (by have := hC2.size; simp at this; omega), hb0.trans (hC3.mono hb0.size)⟩
set_option maxRecDepth 100000 in
set_option maxHeartbeats 1600000 in
theorem RBack_dims1 (regs : Int) (a : Option Addr) (c : Nat) (f : Fo) (ra : Option Addr) (nr cr : Nat) (r : List UInt64) (hnr : nr = r.length) (aa : Option Addr) (na ca : Nat) (w0 : List UInt64) (hna : na = w0.length) (ta : Option Addr) (nt ct : Nat) (w : World) (h : At w a f.flat) (hl : (f.flat).length ≤ 1000000) (hr : At w ra r) (ha : At w aa w0) (b4 : nr ≤ 1000000) (b5 : na ≤ 1000000) (hnt6 : nt ≤ 1000000) (g : Good regs f) (hn : ¬ (nr : Int) = regs) :
    Calls Tryz.prog 49 #[.agg #[.int .i64 regs, .slice a (f.flat).length c], .slice ra nr cr, .slice aa na ca, .slice ta nt ct] w fun e w' => ∃ a1 c1 a2 c2, e = .returned (.tuple #[.slice a1 nr c1, .slice a2 na c2, .int .i64 10]) ∧ Own w' w.heap.size 50 a1 c1 r ∧ Own w' w.heap.size 50 a2 c2 w0 ∧ Below w.heap.size w w' := by
  have h1 := h.belowN (below_new12 w (.cells #[.int .i64 regs, .slice a (f.flat).length c] 24))
  have hb0 := below_new12 w (.cells #[.int .i64 regs, .slice a (f.flat).length c] 24)
  have hX := Blk.new w 24 #[.int .i64 regs, .slice a (f.flat).length c]
  have hr1 := hr.belowN hb0
  have ha1 := ha.belowN hb0
  have HC1 := hide (fun W (h : At W ra r) => Copy21_calls ra cr r W h (by omega))
  have HC2 := hide (fun W (h : At W aa w0) => Copy21_calls aa ca w0 W h (by omega))
  rw [← hnr] at HC1
  rw [← hna] at HC2
  clear hnr hna
  have HP := hide (Unroll12R regs a c f.flat _ f.unroll 0 (unrS_good g) g.check h1 hl); have hul : f.unroll.length ≤ 65536 := (by rw [Fo.unroll_length]; exact g.few); have r1 := g.r1; have r2 := g.r2; generalize f.unroll = U at *; clear g; have b1 : ((nr : Int) != regs) = true := (by simpa using hn); clear hn
  obtain ⟨P, hP⟩ : ∃ P, P = (fun e w' => ∃ a1 c1 a2 c2, e = Ending.returned (.tuple #[.slice a1 nr c1, .slice a2 na c2, .int .i64 (10)]) ∧ Own w' w.heap.size 50 a1 c1 r ∧ Own w' w.heap.size 50 a2 c2 w0 ∧ Below w.heap.size w w') := ⟨_, rfl⟩
  rw [← hP]
  have HPP := hide hP
  clear hP
  go_enter Tryz.func49, Tryz.ntmps49
  go_wp2_with (first
    | (go_at_call 46; go_must ((with_reducible refine (HP.out).mono ?_); rintro e w1 ⟨a1, c1, rfl, hown1, hC1⟩; have hz1 := hC1.size; obtain ⟨q0, q1, q2, q3⟩ := (hX.belowN hC1).c2))
    | (go_at_call 68; first
        | (have hgd := w2; go_must ((with_reducible refine (HC2.out _ (ha1.belowN hC2)).mono ?_); rintro e w3 ⟨a3, c3, rfl, hown3, hb3⟩; have hC3 := hC2.trans (hb3.mono hC2.size); obtain ⟨q0, q1, q2, q3⟩ := (hX.belowN hC3).c2))
        | go_must ((with_reducible refine (HC1.out _ (hr1.belowN hC1)).mono ?_); rintro e w2 ⟨a2, c2, rfl, hown2, hb2⟩; have hC2 := hC1.trans (hb2.mono hC1.size))))
  go_ret3
  rw [HPP.out]
  have hz3 := hC3.size
  simp only [World.size_alloc] at hz3
  exact ⟨a2, c2, a3, c3, rfl, (hown2.belowN hb3).mono (by have := hC1.size; simp at this; omega), hown3.mono (by have := hC2.size; simp at this; omega), hb0.trans (hC3.mono hb0.size)⟩
set_option maxRecDepth 100000 in
set_option maxHeartbeats 1600000 in
theorem RBack_dims2 (regs : Int) (a : Option Addr) (c : Nat) (f : Fo) (ra : Option Addr) (nr cr : Nat) (r : List UInt64) (hnr : nr = r.length) (aa : Option Addr) (na ca : Nat) (w0 : List UInt64) (hna : na = w0.length) (ta : Option Addr) (nt ct : Nat) (w : World) (h : At w a f.flat) (hl : (f.flat).length ≤ 1000000) (hr : At w ra r) (ha : At w aa w0) (b4 : nr ≤ 1000000) (b5 : na ≤ 1000000) (hnt6 : nt ≤ 1000000) (g : Good regs f) (hn : (nr : Int) = regs) (hm : ¬ (na : Int) = regs) :
    Calls Tryz.prog 49 #[.agg #[.int .i64 regs, .slice a (f.flat).length c], .slice ra nr cr, .slice aa na ca, .slice ta nt ct] w fun e w' => ∃ a1 c1 a2 c2, e = .returned (.tuple #[.slice a1 nr c1, .slice a2 na c2, .int .i64 10]) ∧ Own w' w.heap.size 50 a1 c1 r ∧ Own w' w.heap.size 50 a2 c2 w0 ∧ Below w.heap.size w w' := by
  have h1 := h.belowN (below_new12 w (.cells #[.int .i64 regs, .slice a (f.flat).length c] 24))
  have hb0 := below_new12 w (.cells #[.int .i64 regs, .slice a (f.flat).length c] 24)
  have hX := Blk.new w 24 #[.int .i64 regs, .slice a (f.flat).length c]
  have hr1 := hr.belowN hb0
  have ha1 := ha.belowN hb0
  have HC1 := hide (fun W (h : At W ra r) => Copy21_calls ra cr r W h (by omega))
  have HC2 := hide (fun W (h : At W aa w0) => Copy21_calls aa ca w0 W h (by omega))
  rw [← hnr] at HC1
  rw [← hna] at HC2
  clear hnr hna
  have HP := hide (Unroll12R regs a c f.flat _ f.unroll 0 (unrS_good g) g.check h1 hl); have hul : f.unroll.length ≤ 65536 := (by rw [Fo.unroll_length]; exact g.few); have r1 := g.r1; have r2 := g.r2; generalize f.unroll = U at *; clear g; have b1 : ((nr : Int) != regs) = false := (by simpa using hn); have b2 : ((na : Int) != regs) = true := (by simpa using hm); clear hn hm
  obtain ⟨P, hP⟩ : ∃ P, P = (fun e w' => ∃ a1 c1 a2 c2, e = Ending.returned (.tuple #[.slice a1 nr c1, .slice a2 na c2, .int .i64 (10)]) ∧ Own w' w.heap.size 50 a1 c1 r ∧ Own w' w.heap.size 50 a2 c2 w0 ∧ Below w.heap.size w w') := ⟨_, rfl⟩
  rw [← hP]
  have HPP := hide hP
  clear hP
  go_enter Tryz.func49, Tryz.ntmps49
  go_wp2_with (first
    | (go_at_call 46; go_must ((with_reducible refine (HP.out).mono ?_); rintro e w1 ⟨a1, c1, rfl, hown1, hC1⟩; have hz1 := hC1.size; obtain ⟨q0, q1, q2, q3⟩ := (hX.belowN hC1).c2))
    | (go_at_call 68; first
        | (have hgd := w2; go_must ((with_reducible refine (HC2.out _ (ha1.belowN hC2)).mono ?_); rintro e w3 ⟨a3, c3, rfl, hown3, hb3⟩; have hC3 := hC2.trans (hb3.mono hC2.size); obtain ⟨q0, q1, q2, q3⟩ := (hX.belowN hC3).c2))
        | go_must ((with_reducible refine (HC1.out _ (hr1.belowN hC1)).mono ?_); rintro e w2 ⟨a2, c2, rfl, hown2, hb2⟩; have hC2 := hC1.trans (hb2.mono hC1.size))))
  go_ret3
  rw [HPP.out]
  have hz3 := hC3.size
  simp only [World.size_alloc] at hz3
  exact ⟨a2, c2, a3, c3, rfl, (hown2.belowN hb3).mono (by have := hC1.size; simp at this; omega), hown3.mono (by have := hC2.size; simp at this; omega), hb0.trans (hC3.mono hb0.size)⟩
set_option maxRecDepth 100000 in
set_option maxHeartbeats 1600000 in
theorem RBack_full (regs : Int) (a : Option Addr) (c : Nat) (f : Fo) (ra : Option Addr) (nr cr : Nat) (r : List UInt64) (hnr : nr = r.length) (aa : Option Addr) (na ca : Nat) (w0 : List UInt64) (hna : na = w0.length) (ta : Option Addr) (nt ct : Nat) (w : World) (h : At w a f.flat) (hl : (f.flat).length ≤ 1000000) (hr : At w ra r) (ha : At w aa w0) (b4 : nr ≤ 1000000) (b5 : na ≤ 1000000) (hnt6 : nt ≤ 1000000) (g : Good regs f) (hn : (nr : Int) = regs) (hm : (na : Int) = regs) (hu : ¬ f.unroll.length ≤ nt) :
    Calls Tryz.prog 49 #[.agg #[.int .i64 regs, .slice a (f.flat).length c], .slice ra nr cr, .slice aa na ca, .slice ta nt ct] w fun e w' => ∃ a1 c1 a2 c2, e = .returned (.tuple #[.slice a1 nr c1, .slice a2 na c2, .int .i64 15]) ∧ Own w' w.heap.size 50 a1 c1 r ∧ Own w' w.heap.size 50 a2 c2 w0 ∧ Below w.heap.size w w' := by
  have h1 := h.belowN (below_new12 w (.cells #[.int .i64 regs, .slice a (f.flat).length c] 24))
  have hb0 := below_new12 w (.cells #[.int .i64 regs, .slice a (f.flat).length c] 24)
  have hX := Blk.new w 24 #[.int .i64 regs, .slice a (f.flat).length c]
  have hr1 := hr.belowN hb0
  have ha1 := ha.belowN hb0
  have HC1 := hide (fun W (h : At W ra r) => Copy21_calls ra cr r W h (by omega))
  have HC2 := hide (fun W (h : At W aa w0) => Copy21_calls aa ca w0 W h (by omega))
  rw [← hnr] at HC1
  rw [← hna] at HC2
  clear hnr hna
  have HP := hide (Unroll12R regs a c f.flat _ f.unroll 0 (unrS_good g) g.check h1 hl); have hul : f.unroll.length ≤ 65536 := (by rw [Fo.unroll_length]; exact g.few); have r1 := g.r1; have r2 := g.r2; generalize f.unroll = U at *; clear g; have b1 : ((nr : Int) != regs) = false := (by simpa using hn); have b2 : ((na : Int) != regs) = false := (by simpa using hm); have b3 : nt < U.length := (by omega); clear hn hm hu
  obtain ⟨P, hP⟩ : ∃ P, P = (fun e w' => ∃ a1 c1 a2 c2, e = Ending.returned (.tuple #[.slice a1 nr c1, .slice a2 na c2, .int .i64 (15)]) ∧ Own w' w.heap.size 50 a1 c1 r ∧ Own w' w.heap.size 50 a2 c2 w0 ∧ Below w.heap.size w w') := ⟨_, rfl⟩
  rw [← hP]
  have HPP := hide hP
  clear hP
  go_enter Tryz.func49, Tryz.ntmps49
  go_wp2_with (first
    | (go_at_call 46; go_must ((with_reducible refine (HP.out).mono ?_); rintro e w1 ⟨a1, c1, rfl, hown1, hC1⟩; have hz1 := hC1.size; obtain ⟨q0, q1, q2, q3⟩ := (hX.belowN hC1).c2))
    | (go_at_call 68; first
        | (have hgd := w2; go_must ((with_reducible refine (HC2.out _ (ha1.belowN hC2)).mono ?_); rintro e w3 ⟨a3, c3, rfl, hown3, hb3⟩; have hC3 := hC2.trans (hb3.mono hC2.size); obtain ⟨q0, q1, q2, q3⟩ := (hX.belowN hC3).c2))
        | go_must ((with_reducible refine (HC1.out _ (hr1.belowN hC1)).mono ?_); rintro e w2 ⟨a2, c2, rfl, hown2, hb2⟩; have hC2 := hC1.trans (hb2.mono hC1.size))))
  go_ret3
  rw [HPP.out]
  have hz3 := hC3.size
  simp only [World.size_alloc] at hz3
  exact ⟨a2, c2, a3, c3, rfl, (hown2.belowN hb3).mono (by have := hC1.size; simp at this; omega), hown3.mono (by have := hC2.size; simp at this; omega), hb0.trans (hC3.mono hb0.size)⟩
set_option maxRecDepth 100000 in
set_option maxHeartbeats 12800000 in
theorem RBack_good (regs : Int) (a : Option Addr) (c : Nat) (f : Fo) (g : Good regs f) (ra : Option Addr) (nr cr : Nat) (r : List UInt64) (hnr : nr = r.length) (aa : Option Addr) (na ca : Nat) (w0 : List UInt64) (hna : na = w0.length) (ta : Option Addr) (nt ct : Nat) (t : List UInt64) (hnt : nt = t.length) (w : World) (h : At w a f.flat) (hr : At w ra r) (ha : At w aa w0) (ht : At w ta t) (hnt6 : nt ≤ 1000000) (hn : (nr : Int) = regs) (hm : (na : Int) = regs) (hu : f.unroll.length ≤ nt) :
    Calls Tryz.prog 49 #[.agg #[.int .i64 regs, .slice a f.flat.length c], .slice ra nr cr, .slice aa na ca, .slice ta nt ct] w fun e w' => ∃ a1 c1 a2 c2, e = .returned (.tuple #[.slice a1 nr c1, .slice a2 na c2, .int .i64 0]) ∧ Own w' w.heap.size 50 a1 c1 (backR f.unroll t r w0).1 ∧ Own w' w.heap.size 50 a2 c2 (backR f.unroll t r w0).2 ∧ Below w.heap.size w w' := by
  have hl : f.flat.length ≤ 4096 := g.len
  have h1 := h.belowN (below_new12 w (.cells #[.int .i64 regs, .slice a f.flat.length c] 24))
  have hb0 := below_new12 w (.cells #[.int .i64 regs, .slice a f.flat.length c] 24)
  have hX := Blk.new w 24 #[.int .i64 regs, .slice a f.flat.length c]
  have hr1 := hr.belowN hb0
  have ha1 := ha.belowN hb0
  have HC1 := hide (fun W (h : At W ra r) => Copy21_calls ra cr r W h (by have := g.r2; omega))
  have HC2 := hide (fun W (h : At W aa w0) => Copy21_calls aa ca w0 W h (by have := g.r2; omega))
  rw [← hnr] at HC1
  rw [← hna] at HC2
  have HP := hide (Unroll12R regs a c f.flat _ f.unroll 0 (unrS_good g) g.check h1 (by omega))
  have hul : f.unroll.length ≤ 65536 := by rw [Fo.unroll_length]; exact g.few
  have HIN := hide (fun x hx => And.intro (g.inR x hx) (f.unroll_mem g.ok x hx).2)
  have r1 := g.r1
  have r2 := g.r2
  have HNR := hide hnr
  have HNA := hide hna
  have HNT := hide hnt
  generalize f.unroll = U at *
  have b1 : ((nr : Int) != regs) = false := by simpa using hn
  have b2 : ((na : Int) != regs) = false := by simpa using hm
  have b4 : nr ≤ 64 := by omega
  have b5 : na ≤ 64 := by omega
  have b6 : decide (nt < U.length) = false := by simp; omega
  have HN := hide hn
  have HM := hide hm
  clear g hn hm hnr hna hnt
  obtain ⟨P, hP⟩ : ∃ P, P = (fun e w' => ∃ a1 c1 a2 c2, e = Ending.returned (.tuple #[.slice a1 nr c1, .slice a2 na c2, .int .i64 0]) ∧ Own w' w.heap.size 50 a1 c1 (backR U t r w0).1 ∧ Own w' w.heap.size 50 a2 c2 (backR U t r w0).2 ∧ Below w.heap.size w w') := ⟨_, rfl⟩
  rw [← hP]
  have HPP := hide hP
  clear hP
  go_enter Tryz.func49, Tryz.ntmps49
  go_wp2_with (first
    | (go_at_call 46; go_must ((with_reducible refine (HP.out).mono ?_); rintro e w1 ⟨a1, c1, rfl, hown1, hC1⟩; have hz1 := hC1.size; obtain ⟨q0, q1, q2, q3⟩ := (hX.belowN hC1).c2))
    | (go_at_call 68; first
        | (have hgd := w2; go_must ((with_reducible refine (HC2.out _ (ha1.belowN hC2)).mono ?_); rintro e w3 ⟨a3, c3, rfl, hown3, hb3⟩; have hC3 := hC2.trans (hb3.mono hC2.size); obtain ⟨q0, q1, q2, q3⟩ := (hX.belowN hC3).c2))
        | go_must ((with_reducible refine (HC1.out _ (hr1.belowN hC1)).mono ?_); rintro e w2 ⟨a2, c2, rfl, hown2, hb2⟩; have hC2 := hC1.trans (hb2.mono hC1.size))))
  have hB3 := hb0.trans (hC3.mono hb0.size)
  have hz1 := hC1.size
  have hz2 := hb2.size
  have hz3 := hb3.size
  simp only [World.size_alloc] at hz1
  have hat := (hown1.belowN hb2).belowN hb3
  have hne2 : ∀ q1 q2, a2.map (·.block) = some q1 → a3.map (·.block) = some q2 → q1 < q2 := fun q1 q2 e1 e2 => by have h1 := (hown2.blk q1 e1).2; have h2 := (hown3.blk q2 e2).1; omega
  have hne1 : ∀ q1 q2, a1.map (·.block) = some q1 → (a2.map (·.block) = some q2 ∨ a3.map (·.block) = some q2) → q1 < q2 := fun q1 q2 e1 e2 => by
    have h1 := (hown1.blk q1 e1).2
    rcases e2 with e2 | e2
    · have h2 := (hown2.blk q2 e2).1; omega
    · have h2 := (hown3.blk q2 e2).1; omega
  have HNE1 := hide hne1
  have HNE2 := hide hne2
  clear hne1 hne2
  go_loopw [15] (fun iv wr => ∃ (k : Nat) (i : Int), iv = .int .i64 i ∧ Hid (i = (k : Int) - 1) ∧ k ≤ U.length ∧ At wr a1 U ∧ Own wr w.heap.size 50 a2 c2 (bkR U.length t r w0 (U.drop k)).1 ∧ Own wr w.heap.size 50 a3 c3 (bkR U.length t r w0 (U.drop k)).2 ∧ Below w.heap.size w wr) (fun iv _ => (intOf iv + 1).toNat)
  case atStart => exact ⟨U.length, _, rfl, rfl, by omega, hat.at_, by rw [List.drop_length]; exact (hown2.belowN hb3).mono (by omega), by rw [List.drop_length]; exact hown3.mono (by omega), hB3⟩
  case round =>
    obtain ⟨k, i, rfl, hi, hk, hxU, hown, howA, hb⟩ := hrel
    have hzr := hb.size
    cases k with
    | zero =>
      obtain rfl : i = -1 := by have := hi.out; omega
      rw [List.drop_zero, bkR_all] at hown howA
      have hd : decide (0 ≤ (-1 : Int)) = false := by decide
      go_wp2
      go_ret3
      rw [HPP.out]
      exact ⟨a2, c2, a3, c3, rfl, hown, howA, hb⟩
    | succ j =>
      obtain rfl : i = (j : Int) := by have := hi.out; omega
      have hlt : j < U.length := by omega
      have hjt : j < nt := by omega
      obtain ⟨b1', off1, x, rfl, hx, x0, x1, x2, x3, x4⟩ := hxU.getOp (Below.refl _ _) hlt
      obtain ⟨b3', off3, v, rfl, hv, v0⟩ := ht.getU hb (show j < t.length by have := HNT.out; omega)
      obtain ⟨⟨⟨d1, d2⟩, ⟨p1, p2⟩, ⟨i1, i2⟩⟩, k1, k2⟩ := HIN.out x (List.mem_of_getElem? hx.out)
      have HSN := hide (bkR_drop U t r w0 hx.out hv.out)
      have hlr : (bkR U.length t r w0 (U.drop (j + 1))).1.length = nr := by rw [bkR_len1, HNR.out]
      have hla : (bkR U.length t r w0 (U.drop (j + 1))).2.length = na := by rw [bkR_len2, HNA.out]
      have hnR1 : regs ≤ (nr : Int) := by have := HN.out; omega
      have hnR2 : (nr : Int) ≤ regs := by have := HN.out; omega
      have hnA1 : regs ≤ (na : Int) := by have := HM.out; omega
      have hnA2 : (na : Int) ≤ regs := by have := HM.out; omega
      generalize hQ : bkR U.length t r w0 (U.drop (j + 1)) = Q at *
      obtain ⟨R, A⟩ := Q
      simp only at hown howA hlr hla HSN
      rcases hown.form with ⟨_, _, e⟩ | ⟨gr, rfl, hg1, hg2⟩
      · subst e; simp at hlr; omega
      rcases howA.form with ⟨_, _, e⟩ | ⟨ga, rfl, hg3, hg4⟩
      · subst e; simp at hla; omega
      have hgg : gr < ga := HNE2.out gr ga rfl rfl
      have hg5 : b1' < gr := HNE1.out b1' gr rfl (.inl rfl)
      have hb3' : b3' < w.heap.size := by
        obtain ⟨b4, o4, e4, h4⟩ := ht.lt (by intro e; rw [e] at hv; cases hv.out)
        injection e4 with e4
        injection e4 with e5 _ _
        rw [e5]; exact h4
      have hD3 : x.d < (nr : Int) := by omega
      have hA3' : x.a < (nr : Int) := by omega
      have hB3' : x.b < (nr : Int) := by omega
      have hD4 : x.d < (na : Int) := by omega
      have hA4 : x.a < (na : Int) := by omega
      have hB4 : x.b < (na : Int) := by omega
      -- the numbers
      obtain ⟨R', hR'⟩ : ∃ R', R.set x.d.toNat v = R' := ⟨_, rfl⟩
      obtain ⟨gg, hgg0⟩ : ∃ gg, getR A x.d = gg := ⟨_, rfl⟩
      obtain ⟨A1, hA1⟩ : ∃ A1, A.set x.d.toNat 0 = A1 := ⟨_, rfl⟩
      obtain ⟨va, hva⟩ : ∃ va, getR R' x.a = va := ⟨_, rfl⟩
      obtain ⟨vb, hvb⟩ : ∃ vb, getR R' x.b = vb := ⟨_, rfl⟩
      obtain ⟨p, hp⟩ : ∃ p, (partU x va vb).1 = p := ⟨_, rfl⟩
      obtain ⟨q, hq⟩ : ∃ q, (partU x va vb).2 = q := ⟨_, rfl⟩
      obtain ⟨u1, hu1⟩ : ∃ u1, getR A1 x.a = u1 := ⟨_, rfl⟩
      obtain ⟨A2, hA2⟩ : ∃ A2, A1.set x.a.toNat (u1 + p * gg) = A2 := ⟨_, rfl⟩
      obtain ⟨u2, hu2⟩ : ∃ u2, getR A2 x.b = u2 := ⟨_, rfl⟩
      obtain ⟨A3, hA3⟩ : ∃ A3, A2.set x.b.toNat (u2 + q * gg) = A3 := ⟨_, rfl⟩
      obtain ⟨pg, hpg⟩ : ∃ pg, p * gg = pg := ⟨_, rfl⟩
      obtain ⟨qg, hqg⟩ : ∃ qg, q * gg = qg := ⟨_, rfl⟩
      obtain ⟨s1, hs1⟩ : ∃ s1, u1 + pg = s1 := ⟨_, rfl⟩
      obtain ⟨s2, hs2⟩ : ∃ s2, u2 + qg = s2 := ⟨_, rfl⟩
      have hTK : takeA x R' A = A3 := by unfold takeA addR; rw [hA1, hva, hvb, hgg0, hp, hq, hu1, hA2, hu2, hA3]
      rw [hR', hTK] at HSN
      have HTM := hide (fun W => Times_calls p gg W)
      rw [hpg] at HTM hA2
      have HPL := hide (fun W => Plus_calls u1 pg W)
      rw [hs1] at HPL hA2
      have HTM2 := hide (fun W => Times_calls q gg W)
      rw [hqg] at HTM2 hA3
      have HPL2 := hide (fun W => Plus_calls u2 qg W)
      rw [hs2] at HPL2 hA3
      have HPG := hide hpg
      have HQG := hide hqg
      have HS1 := hide hs1
      have HS2 := hide hs2
      have hl1 : A1.length = A.length := by rw [← hA1, List.length_set]
      have hl2 : A2.length = A.length := by rw [← hA2, List.length_set, hl1]
      have hlR : R'.length = R.length := by rw [← hR', List.length_set]
      have getC : ∀ (L : List UInt64) (i : Int) (u : UInt64), getR L i = u → i.toNat < L.length → L[i.toNat]? = some u := fun L i u h hl => by
        unfold getR at h; rw [List.getElem?_eq_getElem hl] at h ⊢; rw [← h]; rfl
      have KA := hide (getC A x.d gg hgg0 (by omega))
      have KA1 := hide (getC A1 x.a u1 hu1 (by omega))
      have KA2 := hide (getC A2 x.b u2 hu2 (by omega))
      have KRa := hide (getC R' x.a va hva (by omega))
      have KRb := hide (getC R' x.b vb hvb (by omega))
      have HPA := hide (fun W => RPartials_calls x va vb W)
      rw [hp, hq] at HPA
      have HKK : Hid (_ ∨ _ ∨ _) := hide (asks_part x va vb k1 k2)
      rw [hp, hq] at HKK
      have HAS := hide (fun W => Asks_calls x.kind W)
      have HR' := hide hR'
      have HA1 := hide hA1
      have HA2 := hide hA2
      have HA3 := hide hA3
      obtain ⟨vd, hvd⟩ : ∃ vd, R[x.d.toNat]? = some vd := ⟨R[x.d.toNat]'(by omega), List.getElem?_eq_getElem _⟩
      have HVD := hide hvd
      have hd : decide (0 ≤ (j : Int)) = true := by simp
      -- the operation is kept, the adjoint is taken
      have hTu : Turned [ga] wr ((wr.setCell ⟨ga, x.d.toNat, none⟩ (.int .u64 0)).alloc (.cells #[.int .i64 x.kind, .int .i64 x.d, .int .i64 x.a, .int .i64 x.b, .int .u64 (x.v.toNat : Int)] 71)) :=
        (Turned.ofGrown (F := [ga]) (grown_setCell _ _ _ _) (fun q hq => .inl (by injection hq with hq; simp [hq]))).trans (Turned.ofBelow (F := []) (below_new12 _ _)) (fun q hq => by cases hq)
      have hszs : (wr.setCell ⟨ga, x.d.toNat, none⟩ (.int .u64 0)).heap.size = wr.heap.size := by simp [World.setCell]
      have hBo := Blk.new (wr.setCell ⟨ga, x.d.toNat, none⟩ (.int .u64 0)) 71 #[.int .i64 x.kind, .int .i64 x.d, .int .i64 x.a, .int .i64 x.b, .int .u64 (x.v.toNat : Int)]
      rw [hszs] at hBo
      have hown1 := hown.turned hTu (fun q hq => by simp at hq; simp; omega)
      have howA1 := ((howA.set1 x.d.toNat 0 (.int .u64 0) rfl).alloc (.cells #[.int .i64 x.kind, .int .i64 x.d, .int .i64 x.a, .int .i64 x.b, .int .u64 (x.v.toNat : Int)] 71))
      rw [hA1] at howA1
      have c0 : wr.cell? ⟨ga, x.d.toNat, none⟩ = some (.int .u64 (gg.toNat : Int)) := by simpa [Flat.n] using howA.cellAt KA.out (f := 0) rfl
      have c1 := howA.frozen x.d.toNat
      have hv2 : ((wr.setCell ⟨ga, x.d.toNat, none⟩ (.int .u64 0)).alloc (.cells #[.int .i64 x.kind, .int .i64 x.d, .int .i64 x.a, .int .i64 x.b, .int .u64 (x.v.toNat : Int)] 71)).cell? ⟨b3', off3 + j, none⟩ = some (.int .u64 (v.toNat : Int)) := (World.cell?_of_block (hTu.block b3' (by omega) (by simp; omega))).trans v0
      clear hpg hqg hs1 hs2 hQ hR' hgg0 hA1 hva hvb hp hq hu1 hA2 hu2 hA3 hTK hl1 hl2 hlR getC hvd hszs v0 hr ha
      go_wp2_with fail
      generalize hW2 : (wr.setCell ⟨ga, x.d.toNat, none⟩ (.int .u64 0)).alloc (.cells #[.int .i64 x.kind, .int .i64 x.d, .int .i64 x.a, .int .i64 x.b, .int .u64 (x.v.toNat : Int)] 71) = W2 at *
      have hz2' : W2.heap.size = wr.heap.size + 1 := by rw [← hW2]; simp [World.setCell]
      clear hW2
      obtain ⟨o0, o1, o2, o3, o4, o5, o6, o7, o8, o9⟩ := hBo.c5
      have rd2 : W2.cell? ⟨gr, x.d.toNat, none⟩ = some (.int .u64 (vd.toNat : Int)) := by simpa [Flat.n] using hown1.cellAt HVD.out (f := 0) rfl
      have rf2 := hown1.frozen x.d.toNat
      go_still_tail 8, (by kernel_rfl)
      change wpList _ _ _ _ _ W2.drew
      go_wp2_with fail
      have hT3 : Turned [gr] W2 (W2.setCell ⟨gr, x.d.toNat, none⟩ (.int .u64 (v.toNat : Int))).drew := (Turned.ofGrown (F := [gr]) (grown_setCell _ _ _ _) (fun q hq => .inl (by injection hq with hq; simp [hq]))).drew
      have hown3 : Own (W2.setCell ⟨gr, x.d.toNat, none⟩ (.int .u64 (v.toNat : Int))).drew w.heap.size 50 (some ⟨gr, 0, none⟩) c2 (R.set x.d.toNat v) := (hown1.set1 x.d.toNat v _ rfl).drew
      rw [HR'.out] at hown3
      have howA3 := howA1.turned hT3 (fun q hq => by simp at hq; simp; omega)
      have hBo3 : Blk (W2.setCell ⟨gr, x.d.toNat, none⟩ (.int .u64 (v.toNat : Int))).drew wr.heap.size 71 #[.int .i64 x.kind, .int .i64 x.d, .int .i64 x.a, .int .i64 x.b, .int .u64 (x.v.toNat : Int)] := (hT3.block _ (by omega) (by simp; omega)).trans hBo
      have hTT3 : Turned [gr, ga] wr (W2.setCell ⟨gr, x.d.toNat, none⟩ (.int .u64 (v.toNat : Int))).drew := (hTu.mono (fun q hq => .inl (by simp at hq; simp [hq]))).trans hT3 (fun q hq => .inl (by simp at hq; simp [hq]))
      have hz3' := hT3.size
      clear o0 o1 o2 o3 o4 o5 o6 o7 o8 o9 rd2 rf2 hown1 howA1 hBo hTu hv2 x0 x1 x2 x3 x4
      generalize (W2.setCell ⟨gr, x.d.toNat, none⟩ (.int .u64 (v.toNat : Int))).drew = W3 at *
      obtain ⟨o0, o1, o2, o3, o4, o5, o6, o7, o8, o9⟩ := hBo3.c5
      have ra3 : W3.cell? ⟨gr, x.a.toNat, none⟩ = some (.int .u64 (va.toNat : Int)) := by simpa [Flat.n] using hown3.cellAt KRa.out (f := 0) rfl
      have rb3 : W3.cell? ⟨gr, x.b.toNat, none⟩ = some (.int .u64 (vb.toNat : Int)) := by simpa [Flat.n] using hown3.cellAt KRb.out (f := 0) rfl
      have hsz1 : wr.heap.size < W3.heap.size := by omega
      have hsg : gr < W3.heap.size := by omega
      have hd0 : Below W3.heap.size W3 W3.drew := Below.drew (Below.refl _ _)
      go_region_held3 (fun w' => (w'.cell? ⟨wr.heap.size, 0, none⟩ = some (.int .i64 x.kind) ∧ w'.cell? ⟨wr.heap.size, 1, none⟩ = some (.int .i64 x.d) ∧ w'.cell? ⟨wr.heap.size, 2, none⟩ = some (.int .i64 x.a) ∧ w'.cell? ⟨wr.heap.size, 3, none⟩ = some (.int .i64 x.b) ∧ w'.cell? ⟨wr.heap.size, 4, none⟩ = some (.int .u64 (x.v.toNat : Int))) ∧ w'.cell? ⟨gr, x.a.toNat, none⟩ = some (.int .u64 (va.toNat : Int)) ∧ w'.cell? ⟨gr, x.b.toNat, none⟩ = some (.int .u64 (vb.toNat : Int))) (go_keep)
        ((go_at_call 70; go_must ((refine (HPA.out _).mono ?_); rintro e w4 ⟨rfl, hb4⟩; have hB4 := hd0.trans (hb4.mono hd0.size); obtain ⟨y0, _⟩ := bcell hB4; have t0 := (y0 _ 0 hsz1).trans o0; have t1 := (y0 _ 1 hsz1).trans o1; have t2 := (y0 _ 2 hsz1).trans o2; have t3 := (y0 _ 3 hsz1).trans o3; have t4 := (y0 _ 4 hsz1).trans o4; have pa := (y0 gr x.a.toNat hsg).trans ra3; have pb := (y0 gr x.b.toNat hsg).trans rb3)))
      have hown4 := hown3.belowN hB4
      have howA4 := howA3.belowN hB4
      have hBo4 := hBo3.belowN hB4
      have hTT4 := hTT3.trans (Turned.ofBelow (F := []) hB4) (fun q hq => by cases hq)
      have hz4' := hB4.size
      clear o0 o1 o2 o3 o4 o5 o6 o7 o8 o9 ra3 rb3 hown3 howA3 hBo3 hTT3 pa pb y0
      rcases HKK.out with ⟨ka, kb⟩ | ⟨ka, kb, kq⟩ | ⟨ka, kb, kp, kq⟩
      · rw [ka, kb] at HAS
        go_wp2_with (go_at_call 51; go_must ((refine (HAS.out _).mono ?_); rintro e w5 ⟨rfl, hb5⟩))
        have hBk := Blk.new w5 103 #[.bool (dOf x.kind), .bool true, .bool true, .bool (vOf x.kind)]
        have hB6 := hb5.trans ((below_new12 w5 (.cells #[.bool (dOf x.kind), .bool true, .bool true, .bool (vOf x.kind)] 103)).mono hb5.size)
        have hz5 := hb5.size
        generalize w5.alloc (.cells #[.bool (dOf x.kind), .bool true, .bool true, .bool (vOf x.kind)] 103) = W6 at *
        have hown6 := hown4.belowN hB6
        have howA6 := howA4.belowN hB6
        have hBo6 := hBo4.belowN hB6
        have hTT6 := hTT4.trans (Turned.ofBelow (F := []) hB6) (fun q hq => by cases hq)
        have hz6 := hB6.size
        obtain ⟨o0, o1, o2, o3, o4, o5, o6, o7, o8, o9⟩ := hBo6.c5
        clear t0 t1 t2 t3 t4
        have c7 : W6.cell? ⟨ga, x.a.toNat, none⟩ = some (.int .u64 (u1.toNat : Int)) := by simpa [Flat.n] using howA6.cellAt KA1.out (f := 0) rfl
        have f7 := howA6.frozen x.a.toNat
        have hsz7 : wr.heap.size < W6.heap.size := by omega
        have hsg7 : ga < W6.heap.size := by omega
        obtain ⟨S', hS'⟩ : ∃ S' : World → Prop, S' = fun w' => w'.cell? ⟨wr.heap.size, 2, none⟩ = some (.int .i64 x.a) ∧ w'.cell? ⟨ga, x.a.toNat, none⟩ = some (.int .u64 (u1.toNat : Int)) := ⟨_, rfl⟩
        have HSE : Hid (∀ w', S' w' → w'.cell? ⟨wr.heap.size, 2, none⟩ = some (.int .i64 x.a) ∧ w'.cell? ⟨ga, x.a.toNat, none⟩ = some (.int .u64 (u1.toNat : Int))) := hide fun w' h => by rw [hS'] at h; exact h
        have HSI : Hid (S' W6.drew) := by show S' W6.drew; rw [hS']; exact ⟨(by assumption : W6.cell? ⟨wr.heap.size, 2, none⟩ = some (.int .i64 x.a)), c7⟩
        have HSI4 : Hid (∀ w4, Below W6.heap.size W6 w4 → S' w4) := by
          show ∀ w4, _ → _
          intro w4 hb4
          obtain ⟨hc4, hf4⟩ := bcell hb4
          rw [hS']
          exact ⟨(hc4 _ 2 hsz7).trans (by assumption), (hc4 _ _ hsg7).trans c7⟩
        have hd7 : Below W6.heap.size W6 W6.drew := Below.drew (Below.refl _ _)
        clear hS'
        refine wp_region_calls 10 12 S' (by kernel_rfl) (by kernel_rfl) HSI.out ?_
        simp only [List.take_succ_cons, List.take_zero, List.drop_succ_cons, List.drop_zero, Nat.reduceSub]
        iterate 10
          apply headK_step (by rfl)
          · intro w' hw'
            obtain ⟨s5, s6⟩ := HSE.out w' hw'
            go_simp
            rfl
          intro a' ha'
          simp only [Act.put, List.setIfInBounds_toArray, List.set_cons_succ, List.set_cons_zero] at ha'
          subst ha'
        refine headK_nil ?_
        rw [midK]
        intro K0 hK0
        have HK0 := hide hK0
        clear hK0
        go_simp
        go_at_call 72
        refine (HTM.out _).mono ?_
        rintro e w7 ⟨rfl, hb7⟩
        have hB7 := hd7.trans (hb7.mono hd7.size)
        refine HK0.out _ _ (HSI4.out w7 hB7) ?_
        clear HK0
        rw [midK]
        intro K0 hK0
        have HK0 := hide hK0
        clear hK0
        go_simp
        go_at_call 71
        refine (HPL.out _).mono ?_
        rintro e w8 ⟨rfl, hb8⟩
        have hB8 := hB7.trans (hb8.mono hB7.size)
        refine HK0.out _ _ (HSI4.out w8 hB8) ?_
        clear HK0
        rw [midK]
        obtain ⟨hc4, hf4⟩ := bcell hB8
        have qd := (hc4 _ _ hsg7).trans c7
        have qf := (hf4 _ x.a.toNat hsg7).trans f7
        clear hc4 hf4 HSI HSI4 HSE
        go_wp2
        refine NoPanic.normal ?_
        have hT9 : Turned [ga] W6 (w8.setCell ⟨ga, x.a.toNat, none⟩ (.int .u64 (s1.toNat : Int))) := (Turned.ofBelow (F := [ga]) hB8).trans (Turned.ofGrown (F := [ga]) (grown_setCell _ _ _ _) (fun q hq => .inl (by injection hq with hq; simp [hq]))) (fun q hq => .inl hq)
        have howA9 := (howA6.belowN hB8).set1 x.a.toNat s1 _ rfl
        rw [HA2.out] at howA9
        have hown9 := hown6.turned hT9 (fun q hq => by simp at hq; simp; omega)
        have hBo9 : Blk _ wr.heap.size 71 _ := (hT9.block _ hBo6.lt (by simp; omega)).trans hBo6
        have hBk9 : Blk _ w5.heap.size 103 _ := (hT9.block _ hBk.lt (by simp; omega)).trans hBk
        have hTT9 := hTT6.trans hT9 (fun q hq => .inl (by simp at hq; simp [hq]))
        have hz9 := hT9.size
        clear o0 o1 o2 o3 o4 o5 o6 o7 o8 o9 qd qf howA6 hown6 hBo6 hBk
        generalize w8.setCell ⟨ga, x.a.toNat, none⟩ (.int .u64 (s1.toNat : Int)) = W9 at *
        obtain ⟨o0, o1, o2, o3, o4, o5, o6, o7, o8, o9⟩ := hBo9.c5
        obtain ⟨e0, e1, e2, e3, e4, e5, e6, e7⟩ := hBk9.c4
        go_wp2_with fail
        have c10 : W9.cell? ⟨ga, x.b.toNat, none⟩ = some (.int .u64 (u2.toNat : Int)) := by simpa [Flat.n] using howA9.cellAt KA2.out (f := 0) rfl
        have f10 := howA9.frozen x.b.toNat
        have hsz10 : wr.heap.size < W9.heap.size := by omega
        have hsg10 : ga < W9.heap.size := by omega
        obtain ⟨S', hS'⟩ : ∃ S' : World → Prop, S' = fun w' => w'.cell? ⟨wr.heap.size, 3, none⟩ = some (.int .i64 x.b) ∧ w'.cell? ⟨ga, x.b.toNat, none⟩ = some (.int .u64 (u2.toNat : Int)) := ⟨_, rfl⟩
        have HSE : Hid (∀ w', S' w' → w'.cell? ⟨wr.heap.size, 3, none⟩ = some (.int .i64 x.b) ∧ w'.cell? ⟨ga, x.b.toNat, none⟩ = some (.int .u64 (u2.toNat : Int))) := hide fun w' h => by rw [hS'] at h; exact h
        have HSI : Hid (S' W9.drew) := by show S' W9.drew; rw [hS']; exact ⟨(by assumption : W9.cell? ⟨wr.heap.size, 3, none⟩ = some (.int .i64 x.b)), c10⟩
        have HSI4 : Hid (∀ w4, Below W9.heap.size W9 w4 → S' w4) := by
          show ∀ w4, _ → _
          intro w4 hb4
          obtain ⟨hc4, hf4⟩ := bcell hb4
          rw [hS']
          exact ⟨(hc4 _ 3 hsz10).trans (by assumption), (hc4 _ _ hsg10).trans c10⟩
        have hd10 : Below W9.heap.size W9 W9.drew := Below.drew (Below.refl _ _)
        clear hS'
        refine wp_region_calls 10 12 S' (by kernel_rfl) (by kernel_rfl) HSI.out ?_
        simp only [List.take_succ_cons, List.take_zero, List.drop_succ_cons, List.drop_zero, Nat.reduceSub]
        iterate 10
          apply headK_step (by rfl)
          · intro w' hw'
            obtain ⟨s5, s6⟩ := HSE.out w' hw'
            go_simp
            rfl
          intro a' ha'
          simp only [Act.put, List.setIfInBounds_toArray, List.set_cons_succ, List.set_cons_zero] at ha'
          subst ha'
        refine headK_nil ?_
        rw [midK]
        intro K0 hK0
        have HK0 := hide hK0
        clear hK0
        go_simp
        go_at_call 72
        refine (HTM2.out _).mono ?_
        rintro e w10 ⟨rfl, hb10⟩
        have hB10 := hd10.trans (hb10.mono hd10.size)
        refine HK0.out _ _ (HSI4.out w10 hB10) ?_
        clear HK0
        rw [midK]
        intro K0 hK0
        have HK0 := hide hK0
        clear hK0
        go_simp
        go_at_call 71
        refine (HPL2.out _).mono ?_
        rintro e w11 ⟨rfl, hb11⟩
        have hB11 := hB10.trans (hb11.mono hB10.size)
        refine HK0.out _ _ (HSI4.out w11 hB11) ?_
        clear HK0
        rw [midK]
        obtain ⟨hc4, hf4⟩ := bcell hB11
        have qd := (hc4 _ _ hsg10).trans c10
        have qf := (hf4 _ x.b.toNat hsg10).trans f10
        clear hc4 hf4 HSI HSI4 HSE
        go_wp2
        refine NoPanic.normal ?_
        have hT12 : Turned [ga] W9 (w11.setCell ⟨ga, x.b.toNat, none⟩ (.int .u64 (s2.toNat : Int))) := (Turned.ofBelow (F := [ga]) hB11).trans (Turned.ofGrown (F := [ga]) (grown_setCell _ _ _ _) (fun q hq => .inl (by injection hq with hq; simp [hq]))) (fun q hq => .inl hq)
        have howA12 := (howA9.belowN hB11).set1 x.b.toNat s2 _ rfl
        rw [HA3.out] at howA12
        have hown12 := hown9.turned hT12 (fun q hq => by simp at hq; simp; omega)
        have hTT12 := hTT9.trans hT12 (fun q hq => .inl (by simp at hq; simp [hq]))
        go_wp2
        have hbF : Below w.heap.size w (w11.setCell ⟨ga, x.b.toNat, none⟩ (.int .u64 (s2.toNat : Int))) := below_turned hb hTT12 (fun b hb => by simp at hb; omega) hzr
        have hxF := hxU.turned hTT12 (fun _ q hq => by simp at hq; simp; omega)
        go_roundw
        case rel =>
          exact ⟨j, (j : Int) - 1, rfl, rfl, by omega, hxF, by rw [HSN.out]; exact hown12, by rw [HSN.out]; exact howA12, hbF⟩
        case measure => simp [intOf] <;> omega
      · rw [ka, kb] at HAS
        have hq0 : qg = 0 := by rw [← HQG.out, kq]; exact UInt64.zero_mul
        have hA32 : A3 = A2 := by
          rw [← HA3.out, ← HS2.out, hq0]
          have := KA2.out
          have e : u2 = getR A2 x.b := by unfold getR; rw [this]; rfl
          rw [e]; exact set_self A2 x.b
        rw [hA32] at HSN
        clear hq0 hA32
        go_wp2_with (go_at_call 51; go_must ((refine (HAS.out _).mono ?_); rintro e w5 ⟨rfl, hb5⟩))
        have hBk := Blk.new w5 103 #[.bool (dOf x.kind), .bool true, .bool false, .bool (vOf x.kind)]
        have hB6 := hb5.trans ((below_new12 w5 (.cells #[.bool (dOf x.kind), .bool true, .bool false, .bool (vOf x.kind)] 103)).mono hb5.size)
        have hz5 := hb5.size
        generalize w5.alloc (.cells #[.bool (dOf x.kind), .bool true, .bool false, .bool (vOf x.kind)] 103) = W6 at *
        have hown6 := hown4.belowN hB6
        have howA6 := howA4.belowN hB6
        have hBo6 := hBo4.belowN hB6
        have hTT6 := hTT4.trans (Turned.ofBelow (F := []) hB6) (fun q hq => by cases hq)
        have hz6 := hB6.size
        obtain ⟨o0, o1, o2, o3, o4, o5, o6, o7, o8, o9⟩ := hBo6.c5
        clear t0 t1 t2 t3 t4
        have c7 : W6.cell? ⟨ga, x.a.toNat, none⟩ = some (.int .u64 (u1.toNat : Int)) := by simpa [Flat.n] using howA6.cellAt KA1.out (f := 0) rfl
        have f7 := howA6.frozen x.a.toNat
        have hsz7 : wr.heap.size < W6.heap.size := by omega
        have hsg7 : ga < W6.heap.size := by omega
        obtain ⟨S', hS'⟩ : ∃ S' : World → Prop, S' = fun w' => w'.cell? ⟨wr.heap.size, 2, none⟩ = some (.int .i64 x.a) ∧ w'.cell? ⟨ga, x.a.toNat, none⟩ = some (.int .u64 (u1.toNat : Int)) := ⟨_, rfl⟩
        have HSE : Hid (∀ w', S' w' → w'.cell? ⟨wr.heap.size, 2, none⟩ = some (.int .i64 x.a) ∧ w'.cell? ⟨ga, x.a.toNat, none⟩ = some (.int .u64 (u1.toNat : Int))) := hide fun w' h => by rw [hS'] at h; exact h
        have HSI : Hid (S' W6.drew) := by show S' W6.drew; rw [hS']; exact ⟨(by assumption : W6.cell? ⟨wr.heap.size, 2, none⟩ = some (.int .i64 x.a)), c7⟩
        have HSI4 : Hid (∀ w4, Below W6.heap.size W6 w4 → S' w4) := by
          show ∀ w4, _ → _
          intro w4 hb4
          obtain ⟨hc4, hf4⟩ := bcell hb4
          rw [hS']
          exact ⟨(hc4 _ 2 hsz7).trans (by assumption), (hc4 _ _ hsg7).trans c7⟩
        have hd7 : Below W6.heap.size W6 W6.drew := Below.drew (Below.refl _ _)
        clear hS'
        refine wp_region_calls 10 12 S' (by kernel_rfl) (by kernel_rfl) HSI.out ?_
        simp only [List.take_succ_cons, List.take_zero, List.drop_succ_cons, List.drop_zero, Nat.reduceSub]
        iterate 10
          apply headK_step (by rfl)
          · intro w' hw'
            obtain ⟨s5, s6⟩ := HSE.out w' hw'
            go_simp
            rfl
          intro a' ha'
          simp only [Act.put, List.setIfInBounds_toArray, List.set_cons_succ, List.set_cons_zero] at ha'
          subst ha'
        refine headK_nil ?_
        rw [midK]
        intro K0 hK0
        have HK0 := hide hK0
        clear hK0
        go_simp
        go_at_call 72
        refine (HTM.out _).mono ?_
        rintro e w7 ⟨rfl, hb7⟩
        have hB7 := hd7.trans (hb7.mono hd7.size)
        refine HK0.out _ _ (HSI4.out w7 hB7) ?_
        clear HK0
        rw [midK]
        intro K0 hK0
        have HK0 := hide hK0
        clear hK0
        go_simp
        go_at_call 71
        refine (HPL.out _).mono ?_
        rintro e w8 ⟨rfl, hb8⟩
        have hB8 := hB7.trans (hb8.mono hB7.size)
        refine HK0.out _ _ (HSI4.out w8 hB8) ?_
        clear HK0
        rw [midK]
        obtain ⟨hc4, hf4⟩ := bcell hB8
        have qd := (hc4 _ _ hsg7).trans c7
        have qf := (hf4 _ x.a.toNat hsg7).trans f7
        clear hc4 hf4 HSI HSI4 HSE
        go_wp2
        refine NoPanic.normal ?_
        have hT9 : Turned [ga] W6 (w8.setCell ⟨ga, x.a.toNat, none⟩ (.int .u64 (s1.toNat : Int))) := (Turned.ofBelow (F := [ga]) hB8).trans (Turned.ofGrown (F := [ga]) (grown_setCell _ _ _ _) (fun q hq => .inl (by injection hq with hq; simp [hq]))) (fun q hq => .inl hq)
        have howA9 := (howA6.belowN hB8).set1 x.a.toNat s1 _ rfl
        rw [HA2.out] at howA9
        have hown9 := hown6.turned hT9 (fun q hq => by simp at hq; simp; omega)
        have hBo9 : Blk _ wr.heap.size 71 _ := (hT9.block _ hBo6.lt (by simp; omega)).trans hBo6
        have hBk9 : Blk _ w5.heap.size 103 _ := (hT9.block _ hBk.lt (by simp; omega)).trans hBk
        have hTT9 := hTT6.trans hT9 (fun q hq => .inl (by simp at hq; simp [hq]))
        have hz9 := hT9.size
        clear o0 o1 o2 o3 o4 o5 o6 o7 o8 o9 qd qf howA6 hown6 hBo6 hBk
        generalize w8.setCell ⟨ga, x.a.toNat, none⟩ (.int .u64 (s1.toNat : Int)) = W9 at *
        obtain ⟨o0, o1, o2, o3, o4, o5, o6, o7, o8, o9⟩ := hBo9.c5
        obtain ⟨e0, e1, e2, e3, e4, e5, e6, e7⟩ := hBk9.c4
        go_wp2
        have hbF : Below w.heap.size w (W9) := below_turned hb hTT9 (fun b hb => by simp at hb; omega) hzr
        have hxF := hxU.turned hTT9 (fun _ q hq => by simp at hq; simp; omega)
        go_roundw
        case rel =>
          exact ⟨j, (j : Int) - 1, rfl, rfl, by omega, hxF, by rw [HSN.out]; exact hown9, by rw [HSN.out]; exact howA9, hbF⟩
        case measure => simp [intOf] <;> omega
      · rw [ka, kb] at HAS
        have hp0 : pg = 0 := by rw [← HPG.out, kp]; exact UInt64.zero_mul
        have hq0 : qg = 0 := by rw [← HQG.out, kq]; exact UInt64.zero_mul
        have hA21 : A2 = A1 := by
          rw [← HA2.out, ← HS1.out, hp0]
          have := KA1.out
          have e : u1 = getR A1 x.a := by unfold getR; rw [this]; rfl
          rw [e]; exact set_self A1 x.a
        have hA32 : A3 = A2 := by
          rw [← HA3.out, ← HS2.out, hq0]
          have := KA2.out
          have e : u2 = getR A2 x.b := by unfold getR; rw [this]; rfl
          rw [e]; exact set_self A2 x.b
        rw [hA32, hA21] at HSN
        clear hp0 hq0 hA32 hA21
        go_wp2_with (go_at_call 51; go_must ((refine (HAS.out _).mono ?_); rintro e w5 ⟨rfl, hb5⟩))
        have hBk := Blk.new w5 103 #[.bool (dOf x.kind), .bool false, .bool false, .bool (vOf x.kind)]
        have hB6 := hb5.trans ((below_new12 w5 (.cells #[.bool (dOf x.kind), .bool false, .bool false, .bool (vOf x.kind)] 103)).mono hb5.size)
        have hz5 := hb5.size
        generalize w5.alloc (.cells #[.bool (dOf x.kind), .bool false, .bool false, .bool (vOf x.kind)] 103) = W6 at *
        have hown6 := hown4.belowN hB6
        have howA6 := howA4.belowN hB6
        have hBo6 := hBo4.belowN hB6
        have hTT6 := hTT4.trans (Turned.ofBelow (F := []) hB6) (fun q hq => by cases hq)
        have hz6 := hB6.size
        obtain ⟨o0, o1, o2, o3, o4, o5, o6, o7, o8, o9⟩ := hBo6.c5
        clear t0 t1 t2 t3 t4
        have hbF : Below w.heap.size w (W6) := below_turned hb hTT6 (fun b hb => by simp at hb; omega) hzr
        have hxF := hxU.turned hTT6 (fun _ q hq => by simp at hq; simp; omega)
        go_roundw
        case rel =>
          exact ⟨j, (j : Int) - 1, rfl, rfl, by omega, hxF, by rw [HSN.out]; exact hown6, by rw [HSN.out]; exact howA6, hbF⟩
        case measure => simp [intOf] <;> omega
theorem RBack_calls (regs : Int) (a : Option Addr) (c ln : Nat) (l : List OpD) (hln : ln = l.length) (ra : Option Addr) (nr cr : Nat) (aa : Option Addr) (na ca : Nat) (ta : Option Addr) (nt ct : Nat) (r0 a0 t0 X Y : List UInt64) (E : Int) (hnr : nr = r0.length) (hna : na = a0.length) (hnt : nt = t0.length)
    (hE : backE regs l nr na nt = E) (hX : backX regs l r0 a0 t0 = X) (hY : backY regs l r0 a0 t0 = Y) (w : World) (h : At w a l) (hl : ln ≤ 1000000)
    (hr : At w ra r0) (ha : At w aa a0) (ht : At w ta t0) (b4 : nr ≤ 1000000) (b5 : na ≤ 1000000) (hnt6 : nt ≤ 1000000) :
    Calls Tryz.prog 49 #[.agg #[.int .i64 regs, .slice a ln c], .slice ra nr cr, .slice aa na ca, .slice ta nt ct] w fun e w' => ∃ a1 c1 a2 c2, e = .returned (.tuple #[.slice a1 nr c1, .slice a2 na c2, .int .i64 E]) ∧ Own w' w.heap.size 50 a1 c1 X ∧ Own w' w.heap.size 50 a2 c2 Y ∧ Below w.heap.size w w' := by
  subst hln hE hX hY
  by_cases hc : backE regs l nr na nt = 0
  · rw [hc]
    rw [hnr, hna, hnt] at hc
    obtain ⟨f, rfl, g, hn, hm, hu⟩ := backE_good hc
    obtain ⟨e1, e2⟩ := back_good g hn hm hu
    rw [e1, e2]
    exact RBack_good regs a c f g ra nr cr r0 hnr aa na ca a0 hna ta nt ct t0 hnt w h hr ha ht hnt6 (by omega) (by omega) (by omega)
  · have hc2 : backE regs l r0.length a0.length t0.length ≠ 0 := by rw [← hnr, ← hna, ← hnt]; exact hc
    obtain ⟨e1, e2⟩ := back_no hc2
    rw [e1, e2]
    by_cases h0 : checkS regs l = 0
    · obtain ⟨f, rfl, g⟩ := good_of_check h0
      by_cases hn : (nr : Int) = regs
      · by_cases hm : (na : Int) = regs
        · have hu : ¬ f.unroll.length ≤ nt := fun hu => hc (backE_of_good g hn hm hu)
          rw [backE_full g hn hm hu]
          exact RBack_full regs a c f ra nr cr r0 hnr aa na ca a0 hna ta nt ct w h hl hr ha b4 b5 hnt6 g hn hm hu
        · rw [backE_dims g (.inr hm)]
          exact RBack_dims2 regs a c f ra nr cr r0 hnr aa na ca a0 hna ta nt ct w h hl hr ha b4 b5 hnt6 g hn hm
      · rw [backE_dims g (.inl hn)]
        exact RBack_dims1 regs a c f ra nr cr r0 hnr aa na ca a0 hna ta nt ct w h hl hr ha b4 b5 hnt6 g hn
    · rw [backE_bad h0]
      exact RBack_bad regs a c l _ ra nr cr r0 hnr aa na ca a0 hna ta nt ct w h hl hr ha b4 b5 hnt6 rfl h0
end Go.Proofs.YtmmepffdjmpblaaGreat
