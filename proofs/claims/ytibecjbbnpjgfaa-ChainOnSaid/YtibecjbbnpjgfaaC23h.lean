/- Chapter 23: the document's steps and losses. -/
import Derived.Test.YtibecjbbnpjgfaaC23g
import Derived.Test.YtibecjbbnpjgfaaQl
namespace Go.Proofs.Ytibecjbbnpjgfaa
set_option linter.unusedVariables false
set_option linter.unusedSimpArgs false
open Go.RowKit
theorem RunR23 (regs : Int) (a : Option Addr) (c ln : Nat) (l : List OpD) (ra : Option Addr) (rc rn : Nat) (r : List UInt64) (w : World) (X : List UInt64) (E : Int) (hln : ln = l.length) (hrn : rn = r.length) (hX : uptoS regs l r (-1) = X) (hE : dimsS regs l r.length = E)
    (h : At w a l) (hl : ln ≤ 1000000) (hr : At w ra r) (hrl : rn ≤ 1000000) :
    Calls Try.prog 51 #[.agg #[.int .i64 regs, .slice a ln c], .slice ra rn rc] w fun e w' => ∃ a' c', e = .returned (.tuple #[.slice a' X.length c', .int .i64 E]) ∧ Own w' w.heap.size 44 a' c' X ∧ Below w.heap.size w w' := by
  subst hln hrn hX hE
  exact Run13_calls regs a c l ra rc r w h hl hr hrl
set_option maxHeartbeats 1600000 in
theorem Begin_calls (c : ChD) (ta : Option Addr) (tc : Nat) (v : UInt64) (hv : v.toNat < 65536) (a : Option Addr) (n k : Nat) (xs : List UInt64) (w : World) (h3 : At w ta c.th) (hat : At w a xs) (hn : n = xs.length) (hn1 : n ≤ 1000) (ht : c.th.length ≤ 1000) (tn : Nat) (htn : c.th.length = tn) (L : List UInt64) (hL : L = xs ++ c.th ++ [v]) (N : Nat) (hN : N = n + tn + 1) :
    Calls Try.prog 52 #[.agg #[.int .i64 c.p.regs, .slice c.p.a c.p.l.length c.p.c, .int .i64 c.q.regs, .slice c.q.a c.q.l.length c.q.c, .int .i64 c.x, .slice ta tn tc], .int .i64 (v.toNat : Int), .slice a n k] w fun e w' => ∃ a' c', e = .returned (.slice a' N c') ∧ Own w' w.heap.size 44 a' c' L ∧ Below w.heap.size w w' := by
  have hb0 : Below w.heap.size w ((w.alloc (.cells #[.int .i64 c.p.regs, .slice c.p.a c.p.l.length c.p.c, .int .i64 c.q.regs, .slice c.q.a c.q.l.length c.q.c, .int .i64 c.x, .slice ta tn tc] 37)).alloc (.cells #[.int .u64 (v.toNat : Int)] 44)) := (below_new _ _).alloc (by simp) _
  have hv1 := At.ofBlk (Blk.new (w.alloc (.cells #[.int .i64 c.p.regs, .slice c.p.a c.p.l.length c.p.c, .int .i64 c.q.regs, .slice c.q.a c.q.l.length c.q.c, .int .i64 c.x, .slice ta tn tc] 37)) 44 #[.int .u64 (v.toNat : Int)]) [v] rfl
  simp only [World.size_alloc] at hv1
  have h4 := h3.belowN hb0
  have h5 := hat.belowN hb0
  have hwr : IntKind.u64.wrap (v.toNat : Int) = (v.toNat : Int) := IntWalk.u64_in _ (by omega)
  rw [htn] at ht
  have HJ := hide (Joined_calls a ta (some ⟨w.heap.size + 1, 0, none⟩) k tc 1 n tn 1 xs c.th [v] _ hn htn.symm rfl h5 h4 hv1 (by omega) (by omega) (by omega))
  have HL := hide hL
  subst hN
  clear hn hL htn
  go_enter Try.func52, Try.ntmps52
  go_wp2_with (go_at_call 53; (try simp only [hwr]); go_must ((with_reducible refine (HJ.out).mono ?_); rintro e w1 ⟨a1, c1, rfl, hown, hb1⟩))
  go_ret
  rw [← HL.out] at hown
  exact ⟨a1, c1, rfl, hown.mono hb0.size, hb0.trans (hb1.mono hb0.size)⟩
theorem RStepBad_calls (c : ChD) (ta : Option Addr) (tc : Nat) (t : Int) (a : Option Addr) (n k : Nat) (w : World) (hn : n ≤ 1000000) (E : Int) (hE : c.may t n = E) (h0 : E ≠ 0) :
    Calls Try.prog 21 #[.agg #[.int .i64 c.p.regs, .slice c.p.a c.p.l.length c.p.c, .int .i64 c.q.regs, .slice c.q.a c.q.l.length c.q.c, .int .i64 c.x, .slice ta c.th.length tc], .int .i64 t, .slice a n k] w fun e w' => e = .returned (.tuple #[.slice none 0 0, .int .i64 E]) ∧ Below w.heap.size w w' := by
  have hb0 := below_new w (.cells #[.int .i64 c.p.regs, .slice c.p.a c.p.l.length c.p.c, .int .i64 c.q.regs, .slice c.q.a c.q.l.length c.q.c, .int .i64 c.x, .slice ta c.th.length tc] 37)
  unfold ChD.may at hE
  by_cases ht : t < 0 ∨ 65536 ≤ t
  · rw [if_pos ht] at hE
    subst hE
    rcases ht with ht | ht
    · go_enter Try.func21, Try.ntmps21
      go_wp2
      go_ret2
      exact ⟨rfl, hb0⟩
    · have hq : ¬ (t < 0) := by omega
      go_enter Try.func21, Try.ntmps21
      go_wp2
      go_ret2
      exact ⟨rfl, hb0⟩
  · rw [if_neg ht] at hE
    have ht1 : ¬ (t < 0) := by omega
    have ht2 : ¬ (65536 ≤ t) := by omega
    by_cases hx : (n : Int) = c.x
    · rw [if_neg (by simpa using hx)] at hE
      exact absurd hE.symm h0
    · rw [if_pos hx] at hE
      subst hE
      have e1 : ((n : Int) != c.x) = true := by simpa using hx
      have e2 : ((n : Int) == c.x) = false := by simpa using hx
      clear hx
      go_enter Try.func21, Try.ntmps21
      go_wp2
      go_ret2
      exact ⟨rfl, hb0⟩
set_option maxRecDepth 100000 in
set_option maxHeartbeats 1600000 in
theorem RStepGood_calls (c : ChD) (hc : c.Ok) (ta : Option Addr) (tc : Nat) (v : UInt64) (a : Option Addr) (n k : Nat) (xs : List UInt64) (w : World) (h1 : At w c.p.a c.p.l) (h3 : At w ta c.th) (hat : At w a xs) (hn : n = xs.length) (hx : (n : Int) = c.x) (hv : v.toNat < 65536) (R : List UInt64) (hR : c.step (v.toNat : Int) xs = R) :
    Calls Try.prog 21 #[.agg #[.int .i64 c.p.regs, .slice c.p.a c.p.l.length c.p.c, .int .i64 c.q.regs, .slice c.q.a c.q.l.length c.q.c, .int .i64 c.x, .slice ta c.th.length tc], .int .i64 (v.toNat : Int), .slice a n k] w fun e w' => ∃ a' k', e = .returned (.tuple #[.slice a' n k', .int .i64 0]) ∧ n ≤ k' ∧ At w' a' R ∧ Fresh w.heap.size w' a' ∧ Below w.heap.size w w' := by
  have hx2 := hc.x2
  have hx1 := hc.x1
  have ht2 := hc.t2
  have hr1 := hc.r1
  obtain ⟨d1, d2⟩ := c.step_run hc (t := (v.toNat : Int)) (xs := xs) (by rw [← hn]; exact hx)
  obtain ⟨X, hX⟩ : ∃ X, uptoS c.p.regs c.p.l (c.beg (v.toNat : Int) xs) (-1) = X := ⟨_, rfl⟩
  have hb : c.beg (v.toNat : Int) xs = xs ++ c.th ++ [v] := by
    unfold ChD.beg
    rw [Int.toNat_natCast, UInt64.ofNat_toNat]
  rw [hX] at d2
  rw [hb] at d1 hX
  unfold ChD.step at hR
  rw [hb, hX] at hR
  have hXl : n ≤ X.length := by omega
  have hxn : c.x.toNat = n := by omega
  rw [hxn] at hR
  have hpl : c.p.l.length ≤ 1000000 := by
    obtain ⟨f, hf, g⟩ := hc.hp
    rw [hf]; have := g.len; unfold Fo.size at this; omega
  obtain ⟨tn, htn⟩ : ∃ tn, c.th.length = tn := ⟨_, rfl⟩
  obtain ⟨L, hL⟩ : ∃ L, L = xs ++ c.th ++ [v] := ⟨_, rfl⟩
  rw [← hL] at d1 hX
  have hfl : n + tn + 1 = L.length := by rw [hL]; simp; omega
  have hb0 := below_new w (.cells #[.int .i64 c.p.regs, .slice c.p.a c.p.l.length c.p.c, .int .i64 c.q.regs, .slice c.q.a c.q.l.length c.q.c, .int .i64 c.x, .slice ta c.th.length tc] 37)
  have hC := Blk.new w 37 #[.int .i64 c.p.regs, .slice c.p.a c.p.l.length c.p.c, .int .i64 c.q.regs, .slice c.q.a c.q.l.length c.q.c, .int .i64 c.x, .slice ta c.th.length tc]
  obtain ⟨w0, hw0⟩ : ∃ w0, w0 = w.alloc (.cells #[.int .i64 c.p.regs, .slice c.p.a c.p.l.length c.p.c, .int .i64 c.q.regs, .slice c.q.a c.q.l.length c.q.c, .int .i64 c.x, .slice ta c.th.length tc] 37) := ⟨_, rfl⟩
  have hd0 : Below w0.heap.size w0 w0.drew := Below.drew (Below.refl _ _)
  rw [← hw0] at hb0 hC
  have HB := hide (Begin_calls c ta tc v hv a n k xs w0.drew ((h3.belowN hb0).belowN hd0) ((hat.belowN hb0).belowN hd0) hn (by omega) (by omega) tn htn L hL (n + tn + 1) rfl)
  have HX := hide hX
  have HD := hide d1
  have HFL := hide hfl
  have HR := hide hR
  have htn64 : tn ≤ 64 := by rw [← htn]; exact ht2
  have hn64 : n ≤ 64 := by omega
  have hp0 := (h1.belowN hb0).belowN hd0
  have e1 : ((n : Int) != c.x) = false := by simpa using hx
  have e2 : ((n : Int) == c.x) = true := by simpa using hx
  have hv1 : ¬ ((v.toNat : Int) < 0) := by omega
  have hv2 : ¬ ((65536 : Int) ≤ (v.toNat : Int)) := by omega
  have HXN := hide hx
  have HW := hide hw0
  have hz0 : w0.heap.size = w.heap.size + 1 := by rw [hw0]; simp
  rw [htn] at hC
  clear hn hR hX d1 hb hL hfl d2
  go_enter Try.func21, Try.ntmps21
  rw [htn]
  go_wp2
  rw [htn] at hw0
  rw [← hw0]
  clear HW hw0
  obtain ⟨p0, p1, p2, p3, p4, p5, p6, p7, p8, p9, p10, p11⟩ := hC.c6
  go_region_held3 (fun w' => w'.cell? ⟨w.heap.size, 0, none⟩ = some (.int .i64 c.p.regs) ∧ w'.cell? ⟨w.heap.size, 1, none⟩ = some (.slice c.p.a c.p.l.length c.p.c) ∧ w'.cell? ⟨w.heap.size, 2, none⟩ = some (.int .i64 c.q.regs) ∧ w'.cell? ⟨w.heap.size, 3, none⟩ = some (.slice c.q.a c.q.l.length c.q.c) ∧ w'.cell? ⟨w.heap.size, 4, none⟩ = some (.int .i64 c.x) ∧ w'.cell? ⟨w.heap.size, 5, none⟩ = some (.slice ta tn tc)) (go_keep)
    (first
      | (go_at_call 52; go_must (refine (HB.out).mono ?_; rintro e w3 ⟨a3, c3, rfl, hown3, hb3⟩; have hB3 := hd0.trans (hb3.mono hd0.size); have hz3 := hB3.size; obtain ⟨q0, q1, q2, q3, q4, q5, q6, q7, q8, q9, q10, q11⟩ := (hC.belowN hB3).c6))
      | (go_at_call 51; go_must (refine (RunR23 c.p.regs c.p.a c.p.c _ c.p.l a3 c3 (n + tn + 1) L w3 X 0 rfl HFL.out HX.out HD.out (hp0.belowN hb3) hpl hown3.at_ (by omega)).mono ?_; rintro e w4 ⟨a4, c4, rfl, hown4, hb4⟩; have hB4 := hB3.trans (hb4.mono hz3); have hz4 := hB4.size; obtain ⟨r0, r1, r2, r3, r4, r5, r6, r7, r8, r9, r10, r11⟩ := (hC.belowN hB4).c6)))
  have hcap := hown4.cap
  have c1' : n ≤ c4 := by omega
  have c2' : X.length ≤ c4 := hcap.1
  have c3' : c4 ≤ 9223372036854775807 := Nat.le_trans hcap.2 (by decide)
  rw [← hx] at r4
  go_wp2
  go_ret2
  have hat4 := hown4.at_.take n
  rw [HR.out] at hat4
  have hz9 : w.heap.size ≤ w3.heap.size := by omega
  exact ⟨a4, c4, rfl, c1', hat4, fun q hq => ⟨Nat.le_trans hz9 (hown4.blk q hq).1, (hown4.blk q hq).2⟩, hb0.trans (hB4.mono (by omega))⟩
theorem RLossBad_calls (c : ChD) (ta : Option Addr) (tc : Nat) (a : Option Addr) (n k : Nat) (w : World) (E : Int) (hE : c.may 0 n = E) (h0 : E ≠ 0) :
    Calls Try.prog 23 #[.agg #[.int .i64 c.p.regs, .slice c.p.a c.p.l.length c.p.c, .int .i64 c.q.regs, .slice c.q.a c.q.l.length c.q.c, .int .i64 c.x, .slice ta c.th.length tc], .slice a n k] w fun e w' => e = .returned (.tuple #[.int .u64 0, .int .i64 E]) ∧ Below w.heap.size w w' := by
  have hb0 := below_new w (.cells #[.int .i64 c.p.regs, .slice c.p.a c.p.l.length c.p.c, .int .i64 c.q.regs, .slice c.q.a c.q.l.length c.q.c, .int .i64 c.x, .slice ta c.th.length tc] 37)
  unfold ChD.may at hE
  rw [if_neg (by omega)] at hE
  by_cases hx : (n : Int) = c.x
  · rw [if_neg (by simpa using hx)] at hE
    exact absurd hE.symm h0
  · rw [if_pos hx] at hE
    subst hE
    have e1 : ((n : Int) != c.x) = true := by simpa using hx
    have e2 : ((n : Int) == c.x) = false := by simpa using hx
    clear hx
    go_enter Try.func23, Try.ntmps23
    go_wp2
    go_ret2
    exact ⟨rfl, hb0⟩
set_option maxRecDepth 100000 in
set_option maxHeartbeats 1600000 in
theorem RLossGood_calls (c : ChD) (hc : c.Ok) (ta : Option Addr) (tc : Nat) (a : Option Addr) (n k : Nat) (xs : List UInt64) (w : World) (h1 : At w c.q.a c.q.l) (h3 : At w ta c.th) (hat : At w a xs) (hn : n = xs.length) (hx : (n : Int) = c.x) (R : UInt64) (hR : c.loss xs = R) :
    Calls Try.prog 23 #[.agg #[.int .i64 c.p.regs, .slice c.p.a c.p.l.length c.p.c, .int .i64 c.q.regs, .slice c.q.a c.q.l.length c.q.c, .int .i64 c.x, .slice ta c.th.length tc], .slice a n k] w fun e w' => e = .returned (.tuple #[.int .u64 (R.toNat : Int), .int .i64 0]) ∧ Below w.heap.size w w' := by
  have hx2 := hc.x2
  have hx1 := hc.x1
  have ht2 := hc.t2
  have hr1 := hc.r2
  obtain ⟨d1, d2⟩ := c.loss_run hc (xs := xs) (by rw [← hn]; exact hx)
  obtain ⟨X, hX⟩ : ∃ X, uptoS c.q.regs c.q.l (xs ++ c.th) (-1) = X := ⟨_, rfl⟩
  rw [hX] at d2
  unfold ChD.loss at hR
  rw [hX] at hR
  have hXl : 0 < X.length := by omega
  have hX0 : X[0]? = some R := by
    rw [List.getD_eq_getElem?_getD, List.getElem?_eq_getElem hXl] at hR
    rw [List.getElem?_eq_getElem hXl, ← hR]; rfl
  have hpl : c.q.l.length ≤ 1000000 := by
    obtain ⟨f, hf, g⟩ := hc.hq
    rw [hf]; have := g.len; unfold Fo.size at this; omega
  obtain ⟨tn, htn⟩ : ∃ tn, c.th.length = tn := ⟨_, rfl⟩
  obtain ⟨L, hL⟩ : ∃ L, L = xs ++ c.th := ⟨_, rfl⟩
  rw [← hL] at d1 hX
  have hfl : n + tn + 0 = L.length := by rw [hL]; simp; omega
  have hb0 := below_new w (.cells #[.int .i64 c.p.regs, .slice c.p.a c.p.l.length c.p.c, .int .i64 c.q.regs, .slice c.q.a c.q.l.length c.q.c, .int .i64 c.x, .slice ta c.th.length tc] 37)
  have hC := Blk.new w 37 #[.int .i64 c.p.regs, .slice c.p.a c.p.l.length c.p.c, .int .i64 c.q.regs, .slice c.q.a c.q.l.length c.q.c, .int .i64 c.x, .slice ta c.th.length tc]
  obtain ⟨w0, hw0⟩ : ∃ w0, w0 = w.alloc (.cells #[.int .i64 c.p.regs, .slice c.p.a c.p.l.length c.p.c, .int .i64 c.q.regs, .slice c.q.a c.q.l.length c.q.c, .int .i64 c.x, .slice ta c.th.length tc] 37) := ⟨_, rfl⟩
  have hd0 : Below w0.heap.size w0 w0.drew := Below.drew (Below.refl _ _)
  rw [← hw0] at hb0 hC
  have HJ := hide (Joined_calls a ta none k tc 0 n tn 0 xs c.th [] w0.drew hn htn.symm rfl ((hat.belowN hb0).belowN hd0) ((h3.belowN hb0).belowN hd0) (At.nil _ _) (by omega) (by omega) (by omega))
  rw [List.append_nil, ← hL] at HJ
  have HX := hide hX
  have HD := hide d1
  have HFL := hide hfl
  have HX0 := hide hX0
  have htn64 : tn ≤ 64 := by rw [← htn]; exact ht2
  have hn64 : n ≤ 64 := by omega
  have hp0 := (h1.belowN hb0).belowN hd0
  have e1 : ((n : Int) != c.x) = false := by simpa using hx
  have e2 : ((n : Int) == c.x) = true := by simpa using hx
  have hz0 : w0.heap.size = w.heap.size + 1 := by rw [hw0]; simp
  rw [htn] at hC
  clear hn hR hX d1 hL hfl d2 hX0
  go_enter Try.func23, Try.ntmps23
  rw [htn]
  go_wp2
  rw [htn] at hw0
  rw [← hw0]
  clear hw0
  obtain ⟨p0, p1, p2, p3, p4, p5, p6, p7, p8, p9, p10, p11⟩ := hC.c6
  go_region_held3 (fun w' => w'.cell? ⟨w.heap.size, 0, none⟩ = some (.int .i64 c.p.regs) ∧ w'.cell? ⟨w.heap.size, 1, none⟩ = some (.slice c.p.a c.p.l.length c.p.c) ∧ w'.cell? ⟨w.heap.size, 2, none⟩ = some (.int .i64 c.q.regs) ∧ w'.cell? ⟨w.heap.size, 3, none⟩ = some (.slice c.q.a c.q.l.length c.q.c) ∧ w'.cell? ⟨w.heap.size, 4, none⟩ = some (.int .i64 c.x) ∧ w'.cell? ⟨w.heap.size, 5, none⟩ = some (.slice ta tn tc)) (go_keep)
    (first
      | (go_at_call 53; go_must (refine (HJ.out).mono ?_; rintro e w3 ⟨a3, c3, rfl, hown3, hb3⟩; have hB3 := hd0.trans (hb3.mono hd0.size); have hz3 := hB3.size; obtain ⟨q0, q1, q2, q3, q4, q5, q6, q7, q8, q9, q10, q11⟩ := (hC.belowN hB3).c6))
      | (go_at_call 51; go_must (refine (RunR23 c.q.regs c.q.a c.q.c _ c.q.l a3 c3 (n + tn + 0) L w3 X 0 rfl HFL.out HX.out HD.out (hp0.belowN hb3) hpl hown3.at_ (by omega)).mono ?_; rintro e w4 ⟨a4, c4, rfl, hown4, hb4⟩; have hB4 := hB3.trans (hb4.mono hz3); have hz4 := hB4.size; obtain ⟨r0, r1, r2, r3, r4, r5, r6, r7, r8, r9, r10, r11⟩ := (hC.belowN hB4).c6)))
  obtain ⟨b9, off9, x9, hba, hx9, u0⟩ := hown4.at_.getU (Below.refl _ _) hXl
  obtain rfl : R = x9 := by have := HX0.out.symm.trans hx9.out; simpa using this
  subst hba
  clear hx9
  rw [Nat.add_zero] at u0
  go_wp2
  go_ret2
  exact ⟨rfl, hb0.trans (hB4.mono (by omega))⟩
end Go.Proofs.Ytibecjbbnpjgfaa
