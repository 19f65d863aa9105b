/- Chapter 23, the document's answers: adjoints of a step and of a loss. -/
import Derived.Test.YtmmepffdjmpblaaGreatC23p
import Derived.Test.YtmmepffdjmpblaaGreatQv
import Derived.Test.YtmmepffdjmpblaaGreatR22c
namespace Go.Proofs.YtmmepffdjmpblaaGreat
set_option linter.unusedVariables false
set_option linter.unusedSimpArgs false
open Go.RowKit
theorem RPullStepBad_calls (c : ChD) (ta : Option Addr) (tc : Nat) (t : Int) (a : Option Addr) (n k : Nat) (aa : Option Addr) (m ka : Nat) (w : World) (E : Int) (hE : c.pse t n m = E) (h0 : E ≠ 0) :
    Calls Tryz.prog 8 #[.agg #[.int .i64 c.p.regs, .slice c.p.a c.p.l.length c.p.c, .int .i64 c.q.regs, .slice c.q.a c.q.l.length c.q.c, .int .i64 c.x, .slice ta c.th.length tc], .int .i64 t, .slice a n k, .slice aa m ka] w fun e w' => e = .returned (.tuple #[.slice none 0 0, .slice none 0 0, .int .i64 E]) ∧ Below w.heap.size w w' := by
  have hb0 := below_new w (.cells #[.int .i64 c.p.regs, .slice c.p.a c.p.l.length c.p.c, .int .i64 c.q.regs, .slice c.q.a c.q.l.length c.q.c, .int .i64 c.x, .slice ta c.th.length tc] 27)
  unfold ChD.pse ChD.may at hE
  by_cases ht : t < 0 ∨ 65536 ≤ t
  · have hE2 : E = 2 := by rw [← hE]; simp [ht]
    subst hE2
    clear hE
    rcases ht with ht | ht
    · go_enter Tryz.func8, Tryz.ntmps8
      go_wp2
      go_ret3
      exact ⟨rfl, hb0⟩
    · have hq : ¬ (t < 0) := by omega
      go_enter Tryz.func8, Tryz.ntmps8
      go_wp2
      go_ret3
      exact ⟨rfl, hb0⟩
  · have ht1 : ¬ (t < 0) := by omega
    have ht2 : ¬ (65536 ≤ t) := by omega
    by_cases hx : (n : Int) = c.x
    · have e1 : ((n : Int) != c.x) = false := by simpa using hx
      have e2 : ((n : Int) == c.x) = true := by simpa using hx
      by_cases hm : (m : Int) = c.x
      · exact absurd (by rw [← hE]; simp [ht, hx, hm]) h0
      · have hE2 : E = 10 := by rw [← hE]; simp [ht, hx, hm]
        subst hE2
        have e3 : ((m : Int) != c.x) = true := by simpa using hm
        have e4 : ((m : Int) == c.x) = false := by simpa using hm
        clear hx hm hE
        go_enter Tryz.func8, Tryz.ntmps8
        go_wp2
        go_ret3
        exact ⟨rfl, hb0⟩
    · have hE2 : E = 10 := by rw [← hE]; simp [ht, hx]
      subst hE2
      have e1 : ((n : Int) != c.x) = true := by simpa using hx
      have e2 : ((n : Int) == c.x) = false := by simpa using hx
      clear hx hE
      go_enter Tryz.func8, Tryz.ntmps8
      go_wp2
      go_ret3
      exact ⟨rfl, hb0⟩
set_option maxRecDepth 100000 in
set_option maxHeartbeats 3200000 in
theorem RPullStepGood_calls (c : ChD) (hc : c.Ok) (ta : Option Addr) (tc : Nat) (v : UInt64) (a : Option Addr) (n k : Nat) (xs : List UInt64) (aa : Option Addr) (m ka : Nat) (adj : List UInt64) (w : World) (h1 : At w c.p.a c.p.l) (h3 : At w ta c.th) (hat : At w a xs) (hn : n = xs.length) (hx : (n : Int) = c.x) (hata : At w aa adj) (hm : m = adj.length) (hmx : (m : Int) = c.x) (hv : v.toNat < 65536) (R : List UInt64) (hR : c.pstep (v.toNat : Int) xs adj = R) (tn : Nat) (htn' : tn = c.th.length) :
    Calls Tryz.prog 8 #[.agg #[.int .i64 c.p.regs, .slice c.p.a c.p.l.length c.p.c, .int .i64 c.q.regs, .slice c.q.a c.q.l.length c.q.c, .int .i64 c.x, .slice ta c.th.length tc], .int .i64 (v.toNat : Int), .slice a n k, .slice aa m ka] w (PartsOut R n tn 0 w) := by
  have hx2 := hc.x2
  have hx1 := hc.x1
  have ht2 := hc.t2
  have hr1 := hc.r1
  obtain ⟨d1, d2⟩ := ChD.pstep_run hc (t := (v.toNat : Int)) (xs := xs) (adj := adj) (by rw [← hn]; exact hx) (by rw [← hm]; exact hmx)
  have hb : c.beg (v.toNat : Int) xs = xs ++ c.th ++ [v] := by
    unfold ChD.beg
    rw [Int.toNat_natCast, UInt64.ofNat_toNat]
  rw [hR] at d2
  unfold ChD.pstep at hR
  rw [hb] at d1 hR
  have hpl : c.p.l.length ≤ 1000000 := by
    obtain ⟨f, hf, g⟩ := hc.hp
    rw [hf]; have := g.len; unfold Fo.size at this; omega
  have hreg : c.p.regs ≤ 64 := by obtain ⟨f, hf, g⟩ := hc.hp; exact g.r2
  have htn : c.th.length = tn := htn'.symm
  obtain ⟨L, hL⟩ : ∃ L, L = xs ++ c.th ++ [v] := ⟨_, rfl⟩
  rw [← hL] at d1 hR
  have hfl : n + tn + 1 = L.length := by rw [hL]; simp; omega
  rw [← hfl, ← hm] at d1
  have hRl : n + tn ≤ R.length := by omega
  have hb0 := below_new w (.cells #[.int .i64 c.p.regs, .slice c.p.a c.p.l.length c.p.c, .int .i64 c.q.regs, .slice c.q.a c.q.l.length c.q.c, .int .i64 c.x, .slice ta c.th.length tc] 27)
  have hC := Blk.new w 27 #[.int .i64 c.p.regs, .slice c.p.a c.p.l.length c.p.c, .int .i64 c.q.regs, .slice c.q.a c.q.l.length c.q.c, .int .i64 c.x, .slice ta c.th.length tc]
  obtain ⟨w0, hw0⟩ : ∃ w0, w0 = w.alloc (.cells #[.int .i64 c.p.regs, .slice c.p.a c.p.l.length c.p.c, .int .i64 c.q.regs, .slice c.q.a c.q.l.length c.q.c, .int .i64 c.x, .slice ta c.th.length tc] 27) := ⟨_, rfl⟩
  have hd0 : Below w0.heap.size w0 w0.drew := Below.drew (Below.refl _ _)
  rw [← hw0] at hb0 hC
  have HB := hide (Begin_calls c ta tc v hv a n k xs w0.drew ((h3.belowN hb0).belowN hd0) ((hat.belowN hb0).belowN hd0) hn (by omega) (by omega) tn htn L hL (n + tn + 1) rfl)
  have HD := hide d1
  have HFL := hide hfl
  have HR := hide hR
  have HMM := hide hm
  have htn64 : tn ≤ 64 := by omega
  have hn64 : n ≤ 64 := by omega
  have hm64 : m ≤ 64 := by omega
  have hp0 := (h1.belowN hb0).belowN hd0
  have ha0 := (hata.belowN hb0).belowN hd0
  have e1 : ((n : Int) != c.x) = false := by simpa using hx
  have e2 : ((n : Int) == c.x) = true := by simpa using hx
  have e3 : ((m : Int) != c.x) = false := by simpa using hmx
  have e4 : ((m : Int) == c.x) = true := by simpa using hmx
  have hv1 : ¬ ((v.toNat : Int) < 0) := by omega
  have hv2 : ¬ ((65536 : Int) ≤ (v.toNat : Int)) := by omega
  have HW := hide hw0
  have hz0 : w0.heap.size = w.heap.size + 1 := by rw [hw0]; simp
  rw [htn] at hC
  have HX := hide hx
  have hRl64 : R.length ≤ 64 := by omega
  have hRl0 : 0 < R.length := by omega
  clear hn hR d1 hb hL hfl d2 hm hmx htn' hx
  go_enter Tryz.func8, Tryz.ntmps8
  rw [htn]
  go_wp2
  rw [htn] at hw0
  rw [← hw0]
  clear HW hw0
  obtain ⟨p0, p1, p2, p3, p4, p5, p6, p7, p8, p9, p10, p11⟩ := hC.c6
  go_region_held3 (fun w' => w'.cell? ⟨w.heap.size, 0, none⟩ = some (.int .i64 c.p.regs) ∧ w'.cell? ⟨w.heap.size, 1, none⟩ = some (.slice c.p.a c.p.l.length c.p.c) ∧ w'.cell? ⟨w.heap.size, 2, none⟩ = some (.int .i64 c.q.regs) ∧ w'.cell? ⟨w.heap.size, 3, none⟩ = some (.slice c.q.a c.q.l.length c.q.c) ∧ w'.cell? ⟨w.heap.size, 4, none⟩ = some (.int .i64 c.x) ∧ w'.cell? ⟨w.heap.size, 5, none⟩ = some (.slice ta tn tc)) (go_keep)
    (first
      | (go_at_call 24; go_must (refine (HB.out).mono ?_; rintro e w3 ⟨a3, c3, rfl, hown3, hb3⟩; have hB3 := hd0.trans (hb3.mono hd0.size); have hz3 := hB3.size; obtain ⟨q0, q1, q2, q3, q4, q5, q6, q7, q8, q9, q10, q11⟩ := (hC.belowN hB3).c6))
      | (go_at_call 23; go_must (refine (RPull_calls c.p.regs c.p.a c.p.c _ c.p.l rfl a3 (n + tn + 1) c3 L HFL.out aa m ka adj HMM.out R 0 HR.out HD.out w3 (hp0.belowN hb3) hpl hown3.at_ (ha0.belowN hb3) (by omega) (by omega)).mono ?_; rintro e w4 ⟨a4, c4, rfl, hown4, hb4⟩; have hB4 := hB3.trans (hb4.mono hz3); have hz4 := hB4.size; obtain ⟨r0, r1, r2, r3, r4, r5, r6, r7, r8, r9, r10, r11⟩ := (hC.belowN hB4).c6)))
  have hcap := hown4.cap
  have c1' : n + tn ≤ c4 := by omega
  have c2' : R.length ≤ c4 := hcap.1
  have c3' : c4 ≤ 9223372036854775807 := Nat.le_trans hcap.2 (by decide)
  have c4' : n ≤ c4 := by omega
  have c5' : (n : Int) + (tn : Int) ≤ (c4 : Int) := by omega
  have i3 : (n : Int) ≤ (n : Int) + (tn : Int) := by omega
  have i5 : (0 : Int) ≤ (n : Int) + (tn : Int) := by omega
  have i6 : IntKind.i64.wrap ((n : Int) + (tn : Int)) = (n : Int) + (tn : Int) := IntWalk.i64_in _ (by omega)
  have i7 : ((n : Int) + (tn : Int)).toNat - n = tn := by omega
  rw [← HX.out] at r4
  obtain ⟨b9, off9, y9, hba, hy9, u0⟩ := hown4.at_.getU (Below.refl _ _) (k := 0) (by omega)
  subst hba
  clear hy9 u0
  go_wp2
  go_quiet (fail)
  go_wp2
  go_ret3
  have hdr := below_drawn w4 w4.heap.size nq
  have hA1 := (hown4.at_.take n).belowN hdr
  have hA2 : At (w4.drewN nq) (cutA (some ⟨b9, off9, none⟩) n c4 1) ((R.drop n).take tn) := ((hown4.at_.cut (k := n) (c := c4) c2').take tn).belowN hdr
  exact ⟨_, _, _, _, rfl, hA1, hA2, hb0.trans ((hB4.trans (hdr.mono hz4)).mono (by omega))⟩
theorem RPullLossBad_calls (c : ChD) (ta : Option Addr) (tc : Nat) (a : Option Addr) (n k : Nat) (w : World) (E : Int) (hE : c.may 0 n = E) (h0 : E ≠ 0) :
    Calls Tryz.prog 10 #[.agg #[.int .i64 c.p.regs, .slice c.p.a c.p.l.length c.p.c, .int .i64 c.q.regs, .slice c.q.a c.q.l.length c.q.c, .int .i64 c.x, .slice ta c.th.length tc], .slice a n k] w fun e w' => e = .returned (.tuple #[.slice none 0 0, .slice none 0 0, .int .i64 E]) ∧ Below w.heap.size w w' := by
  have hb0 := below_new w (.cells #[.int .i64 c.p.regs, .slice c.p.a c.p.l.length c.p.c, .int .i64 c.q.regs, .slice c.q.a c.q.l.length c.q.c, .int .i64 c.x, .slice ta c.th.length tc] 27)
  unfold ChD.may at hE
  rw [if_neg (by omega)] at hE
  by_cases hx : (n : Int) = c.x
  · rw [if_neg (by simpa using hx)] at hE
    exact absurd hE.symm h0
  · rw [if_pos hx] at hE
    subst hE
    have e1 : ((n : Int) != c.x) = true := by simpa using hx
    have e2 : ((n : Int) == c.x) = false := by simpa using hx
    clear hx
    go_enter Tryz.func10, Tryz.ntmps10
    go_wp2
    go_ret3
    exact ⟨rfl, hb0⟩
set_option maxRecDepth 100000 in
set_option maxHeartbeats 6400000 in
theorem RPullLossGood_calls (c : ChD) (hc : c.Ok) (ta : Option Addr) (tc : Nat) (a : Option Addr) (n k : Nat) (xs : List UInt64) (w : World) (h1 : At w c.q.a c.q.l) (h3 : At w ta c.th) (hat : At w a xs) (hn : n = xs.length) (hx : (n : Int) = c.x) (R : List UInt64) (hR : c.ploss xs = R) (tn : Nat) (htn' : tn = c.th.length) :
    Calls Tryz.prog 10 #[.agg #[.int .i64 c.p.regs, .slice c.p.a c.p.l.length c.p.c, .int .i64 c.q.regs, .slice c.q.a c.q.l.length c.q.c, .int .i64 c.x, .slice ta c.th.length tc], .slice a n k] w (PartsOut R n tn 0 w) := by
  have hx2 := hc.x2
  have hx1 := hc.x1
  have ht2 := hc.t2
  have hr1 := hc.r2
  obtain ⟨d1, d2⟩ := ChD.ploss_run hc (xs := xs) (by rw [← hn]; exact hx)
  rw [hR] at d2
  unfold ChD.ploss at hR
  have hpl : c.q.l.length ≤ 1000000 := by
    obtain ⟨f, hf, g⟩ := hc.hq
    rw [hf]; have := g.len; unfold Fo.size at this; omega
  have hreg : c.q.regs ≤ 64 := by obtain ⟨f, hf, g⟩ := hc.hq; exact g.r2
  have htn : c.th.length = tn := htn'.symm
  obtain ⟨L, hL⟩ : ∃ L, L = xs ++ c.th := ⟨_, rfl⟩
  rw [← hL] at d1 hR
  have hfl : n + tn + 0 = L.length := by rw [hL]; simp; omega
  rw [← hfl] at d1
  have hRl : n + tn ≤ R.length := by omega
  have hb0 := below_new w (.cells #[.int .i64 c.p.regs, .slice c.p.a c.p.l.length c.p.c, .int .i64 c.q.regs, .slice c.q.a c.q.l.length c.q.c, .int .i64 c.x, .slice ta c.th.length tc] 27)
  have hC := Blk.new w 27 #[.int .i64 c.p.regs, .slice c.p.a c.p.l.length c.p.c, .int .i64 c.q.regs, .slice c.q.a c.q.l.length c.q.c, .int .i64 c.x, .slice ta c.th.length tc]
  obtain ⟨w0, hw0⟩ : ∃ w0, w0 = w.alloc (.cells #[.int .i64 c.p.regs, .slice c.p.a c.p.l.length c.p.c, .int .i64 c.q.regs, .slice c.q.a c.q.l.length c.q.c, .int .i64 c.x, .slice ta c.th.length tc] 27) := ⟨_, rfl⟩
  have hd0 : Below w0.heap.size w0 w0.drew := Below.drew (Below.refl _ _)
  have hd1 : Below w0.heap.size w0 (w0.alloc (.cells #[.int .u64 1] 50)).drew := Below.drew (below_new12 w0 _)
  rw [← hw0] at hb0 hC
  have HJ := hide (fun (W : World) (k1 : At W a xs) (k2 : At W ta c.th) => Joined_calls a ta none k tc 0 n tn 0 xs c.th [] W hn htn.symm rfl k1 k2 (At.nil _ _) (by omega) (by omega) (by omega))
  rw [List.append_nil, ← hL] at HJ
  have HD := hide d1
  have HFL := hide hfl
  have HR := hide hR
  have htn64 : tn ≤ 64 := by omega
  have hn64 : n ≤ 64 := by omega
  have hx0 := hat.belowN hb0
  have ht0 := h3.belowN hb0
  have hp0 := h1.belowN hb0
  have e1 : ((n : Int) != c.x) = false := by simpa using hx
  have e2 : ((n : Int) == c.x) = true := by simpa using hx
  have hz0 : w0.heap.size = w.heap.size + 1 := by rw [hw0]; simp
  rw [htn] at hC
  have hRl64 : R.length ≤ 64 := by omega
  have hRl0 : 0 < R.length := by omega
  have HX := hide hx
  have HW1 := hide (show ∀ W : World, At (W.alloc (.cells #[.int .u64 1] 50)) (some ⟨W.heap.size, 0, none⟩) [(1 : UInt64)] from fun W => At.ofBlk (Blk.new W _ #[.int .u64 1]) [(1 : UInt64)] rfl)
  have hW1a : At (w0.alloc (.cells #[.int .u64 1] 50)).drew (some ⟨w0.heap.size, 0, none⟩) [(1 : UInt64)] := (HW1.out w0).belowN (Below.drew (Below.refl _ _))
  have hW1b : At (w0.alloc (.cells #[.int .u64 1] 50)).drew (some ⟨w.heap.size + 1, 0, none⟩) [(1 : UInt64)] := by rw [← hz0]; exact hW1a
  have HPL := hide (fun (W : World) (a3 : Option Addr) (c3 : Nat) (aw : Option Addr) (k1 : Below w0.heap.size w0 W) (k2 : At W a3 L) (k3 : At W aw [(1 : UInt64)]) => RPull_calls c.q.regs c.q.a c.q.c _ c.q.l rfl a3 (n + tn) c3 L HFL.out aw 1 1 [(1 : UInt64)] rfl R 0 HR.out HD.out W (hp0.belowN k1) hpl k2 k3 (by omega) (by omega))
  clear hn hR d1 hL hfl d2 htn' hx
  go_enter Tryz.func10, Tryz.ntmps10
  rw [htn]
  go_wp2
  rw [htn] at hw0
  rw [← hw0]
  clear hw0
  obtain ⟨p0, p1, p2, p3, p4, p5, p6, p7, p8, p9, p10, p11⟩ := hC.c6
  obtain ⟨x0, x1, x2, x3, x4, x5, x6, x7, x8, x9, x10, x11⟩ := (hC.belowN hd1).c6
  go_region_held3 (fun w' => w'.cell? ⟨w.heap.size, 0, none⟩ = some (.int .i64 c.p.regs) ∧ w'.cell? ⟨w.heap.size, 1, none⟩ = some (.slice c.p.a c.p.l.length c.p.c) ∧ w'.cell? ⟨w.heap.size, 2, none⟩ = some (.int .i64 c.q.regs) ∧ w'.cell? ⟨w.heap.size, 3, none⟩ = some (.slice c.q.a c.q.l.length c.q.c) ∧ w'.cell? ⟨w.heap.size, 4, none⟩ = some (.int .i64 c.x) ∧ w'.cell? ⟨w.heap.size, 5, none⟩ = some (.slice ta tn tc)) (go_keep)
   (first
    | (go_at_call 25; go_must ((refine (HJ.out _ (by first | exact hx0.belowN hd0 | exact hx0.belowN hd1) (by first | exact ht0.belowN hd0 | exact ht0.belowN hd1)).mono ?_); rintro e w3 ⟨a3, c3, rfl, hown3, hb3⟩; have hB3 : Below _ _ w3 := (by first | exact hd0.trans (hb3.mono hd0.size) | exact hd1.trans (hb3.mono hd1.size)); have hB3Z := hB3.trans ((below_new12 w3 (.cells #[.int .u64 1] 50)).mono hB3.size); obtain ⟨q0, q1, q2, q3, q4, q5, q6, q7, q8, q9, q10, q11⟩ := (hC.belowN hB3).c6; obtain ⟨s0, s1, s2, s3, s4, s5, s6, s7, s8, s9, s10, s11⟩ := (hC.belowN hB3Z).c6))
    | (go_at_call 23; go_must ((with_reducible refine (HPL.out _ a3 c3 _ ?_ ?_ ?_).mono ?_); (focus (first | with_reducible exact hB3 | with_reducible exact hB3Z)); (focus (first | with_reducible exact hown3.at_ | with_reducible exact (hown3.alloc (.cells #[.int .u64 1] 50)).at_)); (focus (first | with_reducible exact HW1.out w3 | with_reducible exact hW1a.belowN hb3 | with_reducible exact hW1b.belowN hb3)); rintro e w4 ⟨a4, c4, rfl, hown4, hb4⟩; have hB4 : Below w0.heap.size w0 w4 := (by first | with_reducible exact hB3.trans (hb4.mono hB3.size) | with_reducible exact hB3Z.trans (hb4.mono hB3Z.size)); obtain ⟨r0, r1, r2, r3, r4, r5, r6, r7, r8, r9, r10, r11⟩ := (hC.belowN hB4).c6)))
  all_goals
    have hz4 := hB4.size
    have hcap := hown4.cap
    have c1' : n + tn ≤ c4 := by omega
    have c2' : R.length ≤ c4 := hcap.1
    have c3' : c4 ≤ 9223372036854775807 := Nat.le_trans hcap.2 (by decide)
    have c4' : n ≤ c4 := by omega
    have c5' : (n : Int) + (tn : Int) ≤ (c4 : Int) := by omega
    have i3 : (n : Int) ≤ (n : Int) + (tn : Int) := by omega
    have i5 : (0 : Int) ≤ (n : Int) + (tn : Int) := by omega
    have i6 : IntKind.i64.wrap ((n : Int) + (tn : Int)) = (n : Int) + (tn : Int) := IntWalk.i64_in _ (by omega)
    have i7 : ((n : Int) + (tn : Int)).toNat - n = tn := by omega
    rw [← HX.out] at r4
    obtain ⟨b9, off9, y9, hba, hy9, u0⟩ := hown4.at_.getU (Below.refl _ _) (k := 0) (by omega)
    subst hba
    clear hy9 u0
    go_wp2
    go_quiet (fail)
    go_wp2
    go_ret3
    have hdr := below_drawn w4 w4.heap.size nq
    have hA1 := (hown4.at_.take n).belowN hdr
    have hA2 : At (w4.drewN nq) (cutA (some ⟨b9, off9, none⟩) n c4 1) ((R.drop n).take tn) := ((hown4.at_.cut (k := n) (c := c4) c2').take tn).belowN hdr
    exact ⟨_, _, _, _, rfl, hA1, hA2, hb0.trans ((hB4.trans (hdr.mono hz4)).mono (by omega))⟩
end Go.Proofs.YtmmepffdjmpblaaGreat
