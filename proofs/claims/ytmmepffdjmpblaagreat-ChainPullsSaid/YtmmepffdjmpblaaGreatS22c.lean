/- Chapter 22: Back. -/
import Derived.Test.YtmmepffdjmpblaaGreatS22b
import Derived.Test.YtmmepffdjmpblaaGreatT21c
namespace Go.Proofs.YtmmepffdjmpblaaGreat
set_option linter.unusedVariables false
set_option linter.unusedSimpArgs false
open Go.RowKit

/-- may registers, adjoints and a tape be handed in? -/
noncomputable def backE (regs : Int) (l : List OpD) (rn an tn : Nat) : Int := if checkS regs l ≠ 0 then checkS regs l else if (rn : Int) ≠ regs ∨ (an : Int) ≠ regs then 10 else if tn < (unrS regs l).length then 15 else 0
noncomputable def backX (regs : Int) (l : List OpD) (r w t : List UInt64) : List UInt64 := if backE regs l r.length w.length t.length = 0 then (backR (unrS regs l) t r w).1 else r
noncomputable def backY (regs : Int) (l : List OpD) (r w t : List UInt64) : List UInt64 := if backE regs l r.length w.length t.length = 0 then (backR (unrS regs l) t r w).2 else w
theorem backE_good {regs : Int} {l : List OpD} {rn an tn : Nat} (h : backE regs l rn an tn = 0) : ∃ f : Fo, l = f.flat ∧ Good regs f ∧ (rn : Int) = regs ∧ (an : Int) = regs ∧ f.unroll.length ≤ tn := by
  unfold backE at h
  by_cases hc : checkS regs l = 0
  · rw [if_neg (by simpa using hc)] at h
    obtain ⟨f, rfl, g⟩ := good_of_check hc
    by_cases hn : (rn : Int) ≠ regs ∨ (an : Int) ≠ regs
    · rw [if_pos hn] at h; cases h
    · rw [if_neg hn, unrS_good g] at h
      by_cases ht : tn < f.unroll.length
      · rw [if_pos ht] at h; cases h
      · exact ⟨f, rfl, g, by omega, by omega, by omega⟩
  · rw [if_pos hc] at h; exact absurd h hc
theorem backE_of_good {regs : Int} {f : Fo} (g : Good regs f) {rn an tn : Nat} (hn : (rn : Int) = regs) (ha : (an : Int) = regs) (ht : f.unroll.length ≤ tn) : backE regs f.flat rn an tn = 0 := by
  unfold backE
  rw [if_neg (by simpa using g.check), if_neg (by omega), unrS_good g, if_neg (by omega)]
theorem backE_dims {regs : Int} {f : Fo} (g : Good regs f) {rn an tn : Nat} (hn : (rn : Int) ≠ regs ∨ (an : Int) ≠ regs) : backE regs f.flat rn an tn = 10 := by
  unfold backE
  rw [if_neg (by simpa using g.check), if_pos hn]
theorem backE_full {regs : Int} {f : Fo} (g : Good regs f) {rn an tn : Nat} (hn : (rn : Int) = regs) (ha : (an : Int) = regs) (ht : ¬ f.unroll.length ≤ tn) : backE regs f.flat rn an tn = 15 := by
  unfold backE
  rw [if_neg (by simpa using g.check), if_neg (by omega), unrS_good g, if_pos (by omega)]
theorem backE_bad {regs : Int} {l : List OpD} {rn an tn : Nat} (hc : checkS regs l ≠ 0) : backE regs l rn an tn = checkS regs l := by unfold backE; rw [if_pos hc]
theorem back_good {regs : Int} {f : Fo} (g : Good regs f) {r w t : List UInt64} (hn : (r.length : Int) = regs) (ha : (w.length : Int) = regs) (ht : f.unroll.length ≤ t.length) :
    backX regs f.flat r w t = (backR f.unroll t r w).1 ∧ backY regs f.flat r w t = (backR f.unroll t r w).2 := by
  unfold backX backY
  rw [if_pos (backE_of_good g hn ha ht), if_pos (backE_of_good g hn ha ht), unrS_good g]
  exact ⟨rfl, rfl⟩
theorem back_no {regs : Int} {l : List OpD} {r w t : List UInt64} (h : backE regs l r.length w.length t.length ≠ 0) : backX regs l r w t = r ∧ backY regs l r w t = w := by
  unfold backX backY
  rw [if_neg h, if_neg h]
  exact ⟨rfl, rfl⟩
theorem backX_length (regs : Int) (l : List OpD) (r w t : List UInt64) : (backX regs l r w t).length = r.length := by
  unfold backX; split
  · rw [backR_undo, undoR_length]
  · rfl
theorem backY_length (regs : Int) (l : List OpD) (r w t : List UInt64) : (backY regs l r w t).length = w.length := by
  unfold backY; split
  · rw [backR_length]
  · rfl
set_option maxRecDepth 100000 in
set_option maxHeartbeats 1600000 in
theorem Back_good (regs : Int) (a : Option Addr) (c : Nat) (f : Fo) (g : Good regs f) (gr nr cr ga na ca : Nat) (ta : Option Addr) (nt ct Br Ba : Nat) (r0 a0 t0 : List UInt64) (w : World) (h : At w a f.flat)
    (hr : Own w Br 50 (some ⟨gr, 0, none⟩) cr r0) (ha : Own w Ba 50 (some ⟨ga, 0, none⟩) ca a0) (ht : At w ta t0) (hnr : nr = r0.length) (hna : na = a0.length) (hnt : nt = t0.length) (hnt6 : nt ≤ 1000000)
    (hn : (r0.length : Int) = regs) (hal : (a0.length : Int) = regs) (hu : f.unroll.length ≤ t0.length) (hrga : gr ≠ ga) (hne : ∀ q, ta.map (·.block) = some q → q ≠ gr ∧ q ≠ ga) :
    Calls Tryz.prog 44 #[.agg #[.int .i64 regs, .slice a f.flat.length c], .slice (some ⟨gr, 0, none⟩) nr cr, .slice (some ⟨ga, 0, none⟩) na ca, .slice ta nt ct] w fun e w' => e = .returned (.int .i64 0) ∧ Own w' Br 50 (some ⟨gr, 0, none⟩) cr (backR f.unroll t0 r0 a0).1 ∧ Own w' Ba 50 (some ⟨ga, 0, none⟩) ca (backR f.unroll t0 r0 a0).2 ∧ Turned [gr, ga] w w' := by
  have hl : f.flat.length ≤ 4096 := g.len
  have h1 := h.belowN (below_new12 w (.cells #[.int .i64 regs, .slice a f.flat.length c] 24))
  have hb0 := below_new12 w (.cells #[.int .i64 regs, .slice a f.flat.length c] 24)
  have HP := hide (Code_calls regs a c f.flat _ h1 (by omega))
  have HSZ := hide (fun w' (g : At w' a f.flat) => SizeW_calls a c f.flat w' g (by omega))
  unfold CodePost at HP
  rw [g.check, codeS_good g] at HP
  rw [g.sizeW.1, g.sizeW.2] at HSZ
  have hul : f.unroll.length ≤ 65536 := by rw [Fo.unroll_length]; exact g.few
  obtain ⟨r1, r2⟩ : 1 ≤ regs ∧ regs ≤ 64 := ⟨g.r1, g.r2⟩
  have hr1 := hr.belowN hb0
  have ha1 := ha.belowN hb0
  have ht1 := ht.belowN hb0
  have hgr := (hr.blk gr rfl).2
  have hga := (ha.blk ga rfl).2
  have HX := hide fun ac cc W hc hcb o1 o2 o3 => back_calls regs f g ac cc gr nr cr ga na ca ta nt ct Br Ba f.unroll.length r0 a0 t0 W rfl hc hcb o1 hn o2 hal hrga hnr hna hnt hnt6 o3 hu hne
  have b1 : ((nr : Int) != regs) = false := by simp; omega
  have b2 : ((na : Int) != regs) = false := by simp; omega
  have b3 : f.unroll.length ≤ nt := by omega
  have b4 : nr ≤ 64 := by omega
  have b5 : na ≤ 64 := by omega
  generalize f.unroll = U at *
  generalize f.bare.code 0 = code at *
  clear g hn hal hu hne hnr hna hnt
  go_enter Tryz.func44, Tryz.ntmps44
  go_wp2_with (first
    | (go_at_call 41; ((with_reducible refine (HP.out).mono ?_); rintro e w1 ⟨a1, c1, rfl, hown1, hb1⟩; have hbx := (Blk.new w 24 #[.int .i64 regs, .slice a f.flat.length c]).belowN hb1; obtain ⟨p0, p1, p2, p3⟩ := hbx.c2; have h2 := h1.belowN hb1; have hB1 := hb0.trans (hb1.mono hb0.size); have hz1 := hb1.size; simp at hz1))
    | (go_at_call 40; go_must ((with_reducible refine (HSZ.out _ h2).mono ?_); rintro e w2 ⟨rfl, hb2⟩; have hbx2 := hbx.belowN hb2; obtain ⟨q0, q1, q2, q3⟩ := hbx2.c2; have hB2 := hB1.trans (hb2.mono hB1.size); have hz2 := hb2.size))
    | (go_at_call 63; go_must ((with_reducible refine (HX.out _ _ _ (hown1.belowN hb2).at_ (fun _ q hq => by have := (hown1.blk q hq).1; simp at this; omega) ((hr1.belowN hb1).belowN hb2) ((ha1.belowN hb1).belowN hb2) ((ht1.belowN hb1).belowN hb2)).mono ?_); rintro e w3 ⟨rfl, hown3, hown4, hT⟩)))
  go_ret
  exact ⟨rfl, hown3, hown4, (Turned.ofBelow hB2).trans hT (fun q hq => .inl hq)⟩
set_option maxRecDepth 100000 in
set_option maxHeartbeats 1600000 in
theorem Back_dims1 (regs : Int) (a : Option Addr) (c : Nat) (f : Fo) (g : Good regs f) (ra : Option Addr) (nr cr : Nat) (aa : Option Addr) (na ca : Nat) (ta : Option Addr) (nt ct : Nat) (w : World) (h : At w a f.flat) (b4 : nr ≤ 1000000) (b5 : na ≤ 1000000) (hnt6 : nt ≤ 1000000) (hn : ¬ (nr : Int) = regs) :
    Calls Tryz.prog 44 #[.agg #[.int .i64 regs, .slice a f.flat.length c], .slice ra nr cr, .slice aa na ca, .slice ta nt ct] w fun e w' => e = .returned (.int .i64 10) ∧ Below w.heap.size w w' := by
  have hl : f.flat.length ≤ 4096 := g.len
  have h1 := h.belowN (below_new12 w (.cells #[.int .i64 regs, .slice a f.flat.length c] 24))
  have hb0 := below_new12 w (.cells #[.int .i64 regs, .slice a f.flat.length c] 24)
  have HP := hide (Code_calls regs a c f.flat _ h1 (by omega))
  have HSZ := hide (fun w' (g : At w' a f.flat) => SizeW_calls a c f.flat w' g (by omega))
  unfold CodePost at HP
  rw [g.check, codeS_good g] at HP
  rw [g.sizeW.1, g.sizeW.2] at HSZ
  have hul : f.unroll.length ≤ 65536 := by rw [Fo.unroll_length]; exact g.few
  obtain ⟨r1, r2⟩ : 1 ≤ regs ∧ regs ≤ 64 := ⟨g.r1, g.r2⟩
  have b1 : ((nr : Int) != regs) = true := (by simpa using hn); clear hn
  generalize f.unroll = U at *
  clear g
  go_enter Tryz.func44, Tryz.ntmps44
  go_wp2_with (first
    | (go_at_call 41; ((with_reducible refine (HP.out).mono ?_); rintro e w1 ⟨a1, c1, rfl, hown1, hb1⟩; have hbx := (Blk.new w 24 #[.int .i64 regs, .slice a f.flat.length c]).belowN hb1; obtain ⟨p0, p1, p2, p3⟩ := hbx.c2; have h2 := h1.belowN hb1; have hB1 := hb0.trans (hb1.mono hb0.size); have hz1 := hb1.size; simp at hz1))
    | (go_at_call 40; go_must ((with_reducible refine (HSZ.out _ h2).mono ?_); rintro e w2 ⟨rfl, hb2⟩; have hbx2 := hbx.belowN hb2; obtain ⟨q0, q1, q2, q3⟩ := hbx2.c2; have hB2 := hB1.trans (hb2.mono hB1.size); have hz2 := hb2.size))
    | fail)
  go_ret
  exact ⟨rfl, hB2⟩
set_option maxRecDepth 100000 in
set_option maxHeartbeats 1600000 in
theorem Back_dims2 (regs : Int) (a : Option Addr) (c : Nat) (f : Fo) (g : Good regs f) (ra : Option Addr) (nr cr : Nat) (aa : Option Addr) (na ca : Nat) (ta : Option Addr) (nt ct : Nat) (w : World) (h : At w a f.flat) (b4 : nr ≤ 1000000) (b5 : na ≤ 1000000) (hnt6 : nt ≤ 1000000) (hn : (nr : Int) = regs) (hm : ¬ (na : Int) = regs) :
    Calls Tryz.prog 44 #[.agg #[.int .i64 regs, .slice a f.flat.length c], .slice ra nr cr, .slice aa na ca, .slice ta nt ct] w fun e w' => e = .returned (.int .i64 10) ∧ Below w.heap.size w w' := by
  have hl : f.flat.length ≤ 4096 := g.len
  have h1 := h.belowN (below_new12 w (.cells #[.int .i64 regs, .slice a f.flat.length c] 24))
  have hb0 := below_new12 w (.cells #[.int .i64 regs, .slice a f.flat.length c] 24)
  have HP := hide (Code_calls regs a c f.flat _ h1 (by omega))
  have HSZ := hide (fun w' (g : At w' a f.flat) => SizeW_calls a c f.flat w' g (by omega))
  unfold CodePost at HP
  rw [g.check, codeS_good g] at HP
  rw [g.sizeW.1, g.sizeW.2] at HSZ
  have hul : f.unroll.length ≤ 65536 := by rw [Fo.unroll_length]; exact g.few
  obtain ⟨r1, r2⟩ : 1 ≤ regs ∧ regs ≤ 64 := ⟨g.r1, g.r2⟩
  have b1 : ((nr : Int) != regs) = false := (by simpa using hn); have b2 : ((na : Int) != regs) = true := (by simpa using hm); clear hn hm
  generalize f.unroll = U at *
  clear g
  go_enter Tryz.func44, Tryz.ntmps44
  go_wp2_with (first
    | (go_at_call 41; ((with_reducible refine (HP.out).mono ?_); rintro e w1 ⟨a1, c1, rfl, hown1, hb1⟩; have hbx := (Blk.new w 24 #[.int .i64 regs, .slice a f.flat.length c]).belowN hb1; obtain ⟨p0, p1, p2, p3⟩ := hbx.c2; have h2 := h1.belowN hb1; have hB1 := hb0.trans (hb1.mono hb0.size); have hz1 := hb1.size; simp at hz1))
    | (go_at_call 40; go_must ((with_reducible refine (HSZ.out _ h2).mono ?_); rintro e w2 ⟨rfl, hb2⟩; have hbx2 := hbx.belowN hb2; obtain ⟨q0, q1, q2, q3⟩ := hbx2.c2; have hB2 := hB1.trans (hb2.mono hB1.size); have hz2 := hb2.size))
    | fail)
  go_ret
  exact ⟨rfl, hB2⟩
set_option maxRecDepth 100000 in
set_option maxHeartbeats 1600000 in
theorem Back_full (regs : Int) (a : Option Addr) (c : Nat) (f : Fo) (g : Good regs f) (ra : Option Addr) (nr cr : Nat) (aa : Option Addr) (na ca : Nat) (ta : Option Addr) (nt ct : Nat) (w : World) (h : At w a f.flat) (b4 : nr ≤ 1000000) (b5 : na ≤ 1000000) (hnt6 : nt ≤ 1000000) (hn : (nr : Int) = regs) (hm : (na : Int) = regs) (hu : ¬ f.unroll.length ≤ nt) :
    Calls Tryz.prog 44 #[.agg #[.int .i64 regs, .slice a f.flat.length c], .slice ra nr cr, .slice aa na ca, .slice ta nt ct] w fun e w' => e = .returned (.int .i64 15) ∧ Below w.heap.size w w' := by
  have hl : f.flat.length ≤ 4096 := g.len
  have h1 := h.belowN (below_new12 w (.cells #[.int .i64 regs, .slice a f.flat.length c] 24))
  have hb0 := below_new12 w (.cells #[.int .i64 regs, .slice a f.flat.length c] 24)
  have HP := hide (Code_calls regs a c f.flat _ h1 (by omega))
  have HSZ := hide (fun w' (g : At w' a f.flat) => SizeW_calls a c f.flat w' g (by omega))
  unfold CodePost at HP
  rw [g.check, codeS_good g] at HP
  rw [g.sizeW.1, g.sizeW.2] at HSZ
  have hul : f.unroll.length ≤ 65536 := by rw [Fo.unroll_length]; exact g.few
  obtain ⟨r1, r2⟩ : 1 ≤ regs ∧ regs ≤ 64 := ⟨g.r1, g.r2⟩
  have b1 : ((nr : Int) != regs) = false := (by simpa using hn); have b2 : ((na : Int) != regs) = false := (by simpa using hm); have b3 : nt < f.unroll.length := (by omega); clear hn hm hu
  generalize f.unroll = U at *
  clear g
  go_enter Tryz.func44, Tryz.ntmps44
  go_wp2_with (first
    | (go_at_call 41; ((with_reducible refine (HP.out).mono ?_); rintro e w1 ⟨a1, c1, rfl, hown1, hb1⟩; have hbx := (Blk.new w 24 #[.int .i64 regs, .slice a f.flat.length c]).belowN hb1; obtain ⟨p0, p1, p2, p3⟩ := hbx.c2; have h2 := h1.belowN hb1; have hB1 := hb0.trans (hb1.mono hb0.size); have hz1 := hb1.size; simp at hz1))
    | (go_at_call 40; go_must ((with_reducible refine (HSZ.out _ h2).mono ?_); rintro e w2 ⟨rfl, hb2⟩; have hbx2 := hbx.belowN hb2; obtain ⟨q0, q1, q2, q3⟩ := hbx2.c2; have hB2 := hB1.trans (hb2.mono hB1.size); have hz2 := hb2.size))
    | fail)
  go_ret
  exact ⟨rfl, hB2⟩
set_option maxHeartbeats 800000 in
theorem Back_bad (regs : Int) (a : Option Addr) (c : Nat) (l : List OpD) (ra : Option Addr) (nr cr : Nat) (aa : Option Addr) (na ca : Nat) (ta : Option Addr) (nt ct : Nat) (w : World) (h : At w a l) (hl : l.length ≤ 1000000) (hc : checkS regs l ≠ 0) :
    Calls Tryz.prog 44 #[.agg #[.int .i64 regs, .slice a l.length c], .slice ra nr cr, .slice aa na ca, .slice ta nt ct] w fun e w' => e = .returned (.int .i64 (checkS regs l)) ∧ Below w.heap.size w w' := by
  have h1 := h.belowN (below_new12 w (.cells #[.int .i64 regs, .slice a l.length c] 24))
  have hb0 := below_new12 w (.cells #[.int .i64 regs, .slice a l.length c] 24)
  have HP := hide (Code_calls regs a c l _ h1 hl)
  obtain ⟨E, hE⟩ : ∃ E, E = checkS regs l := ⟨_, rfl⟩
  unfold CodePost at HP
  rw [← hE] at HP hc ⊢
  have e1 : (E == 0) = false := by simpa using hc
  have e2 : (E != 0) = true := by simpa using hc
  clear hE hc
  go_enter Tryz.func44, Tryz.ntmps44
  go_wp2_with (go_at_call 41; ((with_reducible refine (HP.out).mono ?_); rintro e w1 ⟨a1, c1, rfl, hown1, hb1⟩))
  go_ret
  exact ⟨rfl, hb0.trans (hb1.mono hb0.size)⟩
theorem Back_calls (regs : Int) (a : Option Addr) (c ln : Nat) (l : List OpD) (hln : ln = l.length) (ra : Option Addr) (nr cr : Nat) (aa : Option Addr) (na ca : Nat) (ta : Option Addr) (nt ct Br Ba : Nat) (r0 a0 t0 X Y : List UInt64) (E : Int) (hnr : nr = r0.length) (hna : na = a0.length) (hnt : nt = t0.length)
    (hE : backE regs l nr na nt = E) (hX : backX regs l r0 a0 t0 = X) (hY : backY regs l r0 a0 t0 = Y) (w : World) (h : At w a l) (hl : ln ≤ 1000000)
    (hr : Own w Br 50 ra cr r0) (ha : Own w Ba 50 aa ca a0) (ht : At w ta t0) (b4 : nr ≤ 1000000) (b5 : na ≤ 1000000) (hnt6 : nt ≤ 1000000)
    (hd : ∀ q, ra.map (·.block) = some q → aa.map (·.block) ≠ some q) (hne : ∀ q, ta.map (·.block) = some q → ra.map (·.block) ≠ some q ∧ aa.map (·.block) ≠ some q) :
    Calls Tryz.prog 44 #[.agg #[.int .i64 regs, .slice a ln c], .slice ra nr cr, .slice aa na ca, .slice ta nt ct] w fun e w' => e = .returned (.int .i64 E) ∧ Own w' Br 50 ra cr X ∧ Own w' Ba 50 aa ca Y ∧ Turned (blkL ra ++ blkL aa) w w' := by
  subst hln hE hX hY
  by_cases hc : backE regs l nr na nt = 0
  · rw [hc]
    rw [hnr, hna, hnt] at hc
    obtain ⟨f, rfl, g, hn, hm, hu⟩ := backE_good hc
    obtain ⟨e1, e2⟩ := back_good g hn hm hu
    rw [e1, e2]
    have hr1 := g.r1
    obtain ⟨gr, rfl, _⟩ := hr.some_ (by intro e; rw [e] at hn; simp at hn; omega)
    obtain ⟨ga, rfl, _⟩ := ha.some_ (by intro e; rw [e] at hm; simp at hm; omega)
    exact Back_good regs a c f g gr nr cr ga na ca ta nt ct Br Ba r0 a0 t0 w h hr ha ht hnr hna hnt hnt6 hn hm hu (fun e => hd gr rfl (by rw [e]; rfl)) (fun q hq => ⟨fun e => (hne q hq).1 (by rw [e]; rfl), fun e => (hne q hq).2 (by rw [e]; rfl)⟩)
  · have hc2 : backE regs l r0.length a0.length t0.length ≠ 0 := by rw [← hnr, ← hna, ← hnt]; exact hc
    obtain ⟨e1, e2⟩ := back_no hc2
    rw [e1, e2]
    have key : Calls Tryz.prog 44 #[.agg #[.int .i64 regs, .slice a l.length c], .slice ra nr cr, .slice aa na ca, .slice ta nt ct] w fun e w' => e = .returned (.int .i64 (backE regs l nr na nt)) ∧ Below w.heap.size w w' := by
      by_cases h0 : checkS regs l = 0
      · obtain ⟨f, rfl, g⟩ := good_of_check h0
        by_cases hn : (nr : Int) = regs
        · by_cases hm : (na : Int) = regs
          · have hu : ¬ f.unroll.length ≤ nt := fun hu => hc (backE_of_good g hn hm hu)
            rw [backE_full g hn hm hu]
            exact Back_full regs a c f g ra nr cr aa na ca ta nt ct w h b4 b5 hnt6 hn hm hu
          · rw [backE_dims g (.inr hm)]
            exact Back_dims2 regs a c f g ra nr cr aa na ca ta nt ct w h b4 b5 hnt6 hn hm
        · rw [backE_dims g (.inl hn)]
          exact Back_dims1 regs a c f g ra nr cr aa na ca ta nt ct w h b4 b5 hnt6 hn
      · rw [backE_bad h0]
        exact Back_bad regs a c l ra nr cr aa na ca ta nt ct w h hl h0
    refine key.mono ?_
    rintro e w' ⟨rfl, hb⟩
    exact ⟨rfl, hr.belowN hb, ha.belowN hb, Turned.ofBelow hb⟩
end Go.Proofs.YtmmepffdjmpblaaGreat
