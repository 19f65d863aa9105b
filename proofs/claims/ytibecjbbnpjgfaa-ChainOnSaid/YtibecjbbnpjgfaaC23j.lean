/- Chapter 23: Small, made. -/
import Derived.Test.YtibecjbbnpjgfaaC23i
namespace Go.Proofs.Ytibecjbbnpjgfaa
set_option linter.unusedVariables false
set_option linter.unusedSimpArgs false
open Go.RowKit
theorem sizeW_bd (l : List OpD) : 0 ≤ sizeW l ∧ sizeW l ≤ 65536 := by
  cases hw : well l with
  | false => rw [(size_bad hw).2.1]; omega
  | true =>
    obtain ⟨f, hf, rfl⟩ := forest_of_well l hw
    rw [(sizes_flat hf).1]
    split
    · rename_i h; have := h.2; omega
    · omega
def smallC (c : ChD) (most : Int) : Bool := decide (c.p.l.length ≤ 60) && decide (c.q.l.length ≤ 60) && decide (c.th.length ≤ 100) && decide (sizeW c.p.l + sizeW c.q.l ≤ most)
set_option maxHeartbeats 1600000 in
theorem Small23_calls (c : ChD) (ta : Option Addr) (tc : Nat) (most : Int) (B : Bool) (hB : smallC c most = B) (w : World) (h : At w c.p.a c.p.l) (h' : At w c.q.a c.q.l) :
    Calls Try.prog 17 #[.agg #[.int .i64 c.p.regs, .slice c.p.a c.p.l.length c.p.c, .int .i64 c.q.regs, .slice c.q.a c.q.l.length c.q.c, .int .i64 c.x, .slice ta c.th.length tc], .int .i64 most] w fun e w' => e = .returned (.bool B) ∧ Below w.heap.size w w' := by
  have hb0 := below_new w (.cells #[.int .i64 c.p.regs, .slice c.p.a c.p.l.length c.p.c, .int .i64 c.q.regs, .slice c.q.a c.q.l.length c.q.c, .int .i64 c.x, .slice ta c.th.length tc] 37)
  have hX := Blk.new w 37 #[.int .i64 c.p.regs, .slice c.p.a c.p.l.length c.p.c, .int .i64 c.q.regs, .slice c.q.a c.q.l.length c.q.c, .int .i64 c.x, .slice ta c.th.length tc]
  have h1 := h.belowN hb0
  have h2 := h'.belowN hb0
  subst hB
  unfold smallC
  by_cases hs : c.p.l.length ≤ 60 ∧ c.q.l.length ≤ 60 ∧ c.th.length ≤ 100
  · obtain ⟨s1, s2, s3⟩ := hs
    have t1 : ¬ ((60 : Int) < (c.p.l.length : Int)) := by omega
    have t2 : ¬ ((60 : Int) < (c.q.l.length : Int)) := by omega
    have t3 : ¬ ((100 : Int) < (c.th.length : Int)) := by omega
    obtain ⟨P, hP⟩ : ∃ P, sizeW c.p.l = P := ⟨_, rfl⟩
    obtain ⟨Q, hQ⟩ : ∃ Q, sizeW c.q.l = Q := ⟨_, rfl⟩
    have b1 := sizeW_bd c.p.l
    have b2 := sizeW_bd c.q.l
    have HP := hide (Writes9_calls c.p.a c.p.c c.p.l _ h1 (by omega))
    have HQ := hide (fun w' (hb : Below (w.alloc (.cells #[.int .i64 c.p.regs, .slice c.p.a c.p.l.length c.p.c, .int .i64 c.q.regs, .slice c.q.a c.q.l.length c.q.c, .int .i64 c.x, .slice ta c.th.length tc] 37)).heap.size (w.alloc (.cells #[.int .i64 c.p.regs, .slice c.p.a c.p.l.length c.p.c, .int .i64 c.q.regs, .slice c.q.a c.q.l.length c.q.c, .int .i64 c.x, .slice ta c.th.length tc] 37)) w') => Writes9_calls c.q.a c.q.c c.q.l w' (h2.belowN hb) (by omega))
    rw [hP] at HP b1
    simp only [hQ] at HQ
    rw [hQ] at b2
    rw [hP, hQ]
    have hsum : IntKind.i64.wrap (P + Q) = P + Q := IntWalk.i64_in _ (by omega)
    have hd : (decide (c.p.l.length ≤ 60) && decide (c.q.l.length ≤ 60) && decide (c.th.length ≤ 100) && decide (P + Q ≤ most)) = decide (P + Q ≤ most) := by simp [s1, s2, s3]
    rw [hd]
    generalize sizeE c.p.l = E1 at *
    generalize sizeE c.q.l = E2 at *
    clear hP hQ hd
    go_enter Try.func17, Try.ntmps17
    go_wp2_with (go_at_call 45; first
      | ((with_reducible refine (HQ.out _ hb1).mono ?_); rintro e w2 ⟨rfl, hb2⟩)
      | ((with_reducible refine (HP.out).mono ?_); rintro e w1 ⟨rfl, hb1⟩; have hB1 := hb0.trans (hb1.mono hb0.size); have hz1 := hB1.size; obtain ⟨p0, p1, p2, p3, p4, p5, p6, p7, p8, p9, p10, p11⟩ := (hX.belowN hb1).c6))
    go_ret
    exact ⟨rfl, hB1.trans (hb2.mono hz1)⟩
  · have hd : (decide (c.p.l.length ≤ 60) && decide (c.q.l.length ≤ 60) && decide (c.th.length ≤ 100) && decide (sizeW c.p.l + sizeW c.q.l ≤ most)) = false := by
      rw [Bool.eq_false_iff]
      intro h
      simp only [Bool.and_eq_true, decide_eq_true_eq] at h
      exact hs ⟨h.1.1.1, h.1.1.2, h.1.2⟩
    rw [hd]
    clear hd
    by_cases u1 : c.p.l.length ≤ 60
    · by_cases u2 : c.q.l.length ≤ 60
      · have u3 : ¬ (c.th.length ≤ 100) := fun u3 => hs ⟨u1, u2, u3⟩
        clear hs
        have t1 : ¬ ((60 : Int) < (c.p.l.length : Int)) := by omega
        have t2 : ¬ ((60 : Int) < (c.q.l.length : Int)) := by omega
        have t3 : ((100 : Int) < (c.th.length : Int)) := by omega
        go_enter Try.func17, Try.ntmps17
        go_wp2
        go_ret
        exact ⟨rfl, hb0⟩
      · clear hs
        have t1 : ¬ ((60 : Int) < (c.p.l.length : Int)) := by omega
        have t2 : ((60 : Int) < (c.q.l.length : Int)) := by omega
        go_enter Try.func17, Try.ntmps17
        go_wp2
        go_ret
        exact ⟨rfl, hb0⟩
    · clear hs
      have t1 : ((60 : Int) < (c.p.l.length : Int)) := by omega
      go_enter Try.func17, Try.ntmps17
      go_wp2
      go_ret
      exact ⟨rfl, hb0⟩
set_option maxHeartbeats 1600000 in
theorem MadeBad_calls (c : ChD) (ta : Option Addr) (tc : Nat) (w : World) (h : At w c.p.a c.p.l) (hl : c.p.l.length ≤ 1000000) (h' : At w c.q.a c.q.l) (hl' : c.q.l.length ≤ 1000000) (hx : -9223372036854775808 ≤ c.x ∧ c.x ≤ 9223372036854775807) (hn : c.th.length ≤ 1000000) (h0 : c.bad ≠ 0) :
    Calls Try.prog 19 #[.agg #[.int .i64 c.p.regs, .slice c.p.a c.p.l.length c.p.c, .int .i64 c.q.regs, .slice c.q.a c.q.l.length c.q.c, .int .i64 c.x, .slice ta c.th.length tc]] w fun e w' => e = .returned (.tuple #[.pointer none, .bool true]) ∧ Below w.heap.size w w' := by
  have hb0 := below_new w (.cells #[.int .i64 c.p.regs, .slice c.p.a c.p.l.length c.p.c, .int .i64 c.q.regs, .slice c.q.a c.q.l.length c.q.c, .int .i64 c.x, .slice ta c.th.length tc] 37)
  have hX := Blk.new w 37 #[.int .i64 c.p.regs, .slice c.p.a c.p.l.length c.p.c, .int .i64 c.q.regs, .slice c.q.a c.q.l.length c.q.c, .int .i64 c.x, .slice ta c.th.length tc]
  have h1 := h.belowN hb0
  have h2 := h'.belowN hb0
  obtain ⟨E, hE⟩ : ∃ E, c.bad = E := ⟨_, rfl⟩
  rw [hE] at h0
  have HE := hide hE
  have e1 : (E == 0) = false := by simpa using h0
  have e3 : (E == E) = true := by simp
  have HN := hide (NewBad_calls c ta tc _ h1 hl h2 hl' hx hn E hE h0)
  clear hE h0
  go_enter Try.func19, Try.ntmps19
  go_wp2_with (first
    | (go_at_call 28; go_must ((with_reducible refine (HN.out).mono ?_); rintro e w1 ⟨rfl, hb1⟩; have hB1 := hb0.trans (hb1.mono hb0.size); have hz1 := hB1.size; obtain ⟨p0, p1, p2, p3, p4, p5, p6, p7, p8, p9, p10, p11⟩ := (hX.belowN hb1).c6; have h3 := h1.belowN hb1; have h4 := h2.belowN hb1))
    | (go_at_call 47; go_must ((with_reducible refine (New23_calls c ta tc _ h3 hl h4 hl' hx hn E HE.out).mono ?_); rintro e w2 ⟨rfl, hb2⟩)))
  go_ret2
  exact ⟨rfl, hB1.trans (hb2.mono hz1)⟩
set_option maxHeartbeats 1600000 in
theorem MadeGood_calls (c : ChD) (ta : Option Addr) (tc : Nat) (w : World) (h : At w c.p.a c.p.l) (hl : c.p.l.length ≤ 1000000) (h' : At w c.q.a c.q.l) (hl' : c.q.l.length ≤ 1000000) (h3 : At w ta c.th) (hx : -9223372036854775808 ≤ c.x ∧ c.x ≤ 9223372036854775807) (hn : c.th.length ≤ 1000000) (h0 : c.bad = 0) :
    Calls Try.prog 19 #[.agg #[.int .i64 c.p.regs, .slice c.p.a c.p.l.length c.p.c, .int .i64 c.q.regs, .slice c.q.a c.q.l.length c.q.c, .int .i64 c.x, .slice ta c.th.length tc]] w fun e w' => ∃ g, e = .returned (.tuple #[.pointer (some ⟨g, 0, none⟩), .bool true]) ∧ ChAt w' g c ∧ w.heap.size ≤ g ∧ Below w.heap.size w w' := by
  have hb0 := below_new w (.cells #[.int .i64 c.p.regs, .slice c.p.a c.p.l.length c.p.c, .int .i64 c.q.regs, .slice c.q.a c.q.l.length c.q.c, .int .i64 c.x, .slice ta c.th.length tc] 37)
  have hX := Blk.new w 37 #[.int .i64 c.p.regs, .slice c.p.a c.p.l.length c.p.c, .int .i64 c.q.regs, .slice c.q.a c.q.l.length c.q.c, .int .i64 c.x, .slice ta c.th.length tc]
  have h1 := h.belowN hb0
  have h2 := h'.belowN hb0
  have HE := hide h0
  have HN := hide (NewGood_calls c ta tc _ h1 hl h2 hl' (h3.belowN hb0) hx hn h0)
  clear h0
  go_enter Try.func19, Try.ntmps19
  go_wp2_with (first
    | (go_at_call 28; go_must ((with_reducible refine (HN.out).mono ?_); rintro e w1 ⟨g, rfl, hch, hg, hb1⟩; have hB1 := hb0.trans (hb1.mono hb0.size); have hz1 := hB1.size; obtain ⟨p0, p1, p2, p3, p4, p5, p6, p7, p8, p9, p10, p11⟩ := (hX.belowN hb1).c6; have h5 := h1.belowN hb1; have h4 := h2.belowN hb1))
    | (go_at_call 47; go_must ((with_reducible refine (New23_calls c ta tc _ h5 hl h4 hl' hx hn 0 HE.out).mono ?_); rintro e w2 ⟨rfl, hb2⟩)))
  go_ret2
  exact ⟨g, rfl, hch.belowN hb2, Nat.le_trans hb0.size hg, hB1.trans (hb2.mono hz1)⟩
end Go.Proofs.Ytibecjbbnpjgfaa
