/- Several texts of mine in one file. -/
import Derived.Test.YtcamcnahkdiefaaGreatYMNah
import Derived.Test.YtcamcnahkdiefaaGreatYMNac
import Derived.Deep.RegionLaw
import Derived.Test.YtcamcnahkdiefaaGreatYMNaa
import Derived.Deep.RegionHeld3
import Derived.Test.YtcamcnahkdiefaaGreatYMNag
import Derived.Laws.CopyOwn
import Derived.Lib.AppendZeros
/- Chapter 22: Back. -/
namespace Go.Proofs.YtcamcnahkdiefaaGreat
set_option linter.unusedVariables false
set_option linter.unusedSimpArgs false
open Go.RowKit

noncomputable def backE (regs : Int) (l : List OpD) (rn an tn : Nat) : Int := if checkS regs l ≠ 0 then checkS regs l else if (rn : Int) ≠ regs ∨ (an : Int) ≠ regs then 10 else if tn < (unrS regs l).length then 15 else 0
noncomputable def backX (regs : Int) (l : List OpD) (r w t : List UInt64) : List UInt64 := if backE regs l r.length w.length t.length = 0 then (backR (unrS regs l) t r w).1 else r
noncomputable def backY (regs : Int) (l : List OpD) (r w t : List UInt64) : List UInt64 := if backE regs l r.length w.length t.length = 0 then (backR (unrS regs l) t r w).2 else w
theorem backE_good {regs : Int} {l : List OpD} {rn an tn : Nat} (h : backE regs l rn an tn = 0) : ∃ f : Fo, l = f.flat ∧ Good regs f ∧ (rn : Int) = regs ∧ (an : Int) = regs ∧ f.unroll.length ≤ tn := by
  unfold backE at h
  by_cases hc : checkS regs l = 0
  · rw [if_neg (by simpa using hc)] at h
    obtain ⟨f, rfl, g⟩ := good_of_check hc
    by_cases hn : (rn : Int) ≠ regs ∨ (an : Int) ≠ regs
    · rw [if_pos hn] at h; cases h
    · rw [if_neg hn, unrS_good g] at h
      by_cases ht : tn < f.unroll.length
      · rw [if_pos ht] at h; cases h
      · exact ⟨f, rfl, g, by omega, by omega, by omega⟩
  · rw [if_pos hc] at h; exact absurd h hc
theorem backE_of_good {regs : Int} {f : Fo} (g : Good regs f) {rn an tn : Nat} (hn : (rn : Int) = regs) (ha : (an : Int) = regs) (ht : f.unroll.length ≤ tn) : backE regs f.flat rn an tn = 0 := by
  unfold backE
  rw [if_neg (by simpa using g.check), if_neg (by omega), unrS_good g, if_neg (by omega)]
theorem backE_dims {regs : Int} {f : Fo} (g : Good regs f) {rn an tn : Nat} (hn : (rn : Int) ≠ regs ∨ (an : Int) ≠ regs) : backE regs f.flat rn an tn = 10 := by
  unfold backE
  rw [if_neg (by simpa using g.check), if_pos hn]
theorem backE_full {regs : Int} {f : Fo} (g : Good regs f) {rn an tn : Nat} (hn : (rn : Int) = regs) (ha : (an : Int) = regs) (ht : ¬ f.unroll.length ≤ tn) : backE regs f.flat rn an tn = 15 := by
  unfold backE
  rw [if_neg (by simpa using g.check), if_neg (by omega), unrS_good g, if_pos (by omega)]
theorem backE_bad {regs : Int} {l : List OpD} {rn an tn : Nat} (hc : checkS regs l ≠ 0) : backE regs l rn an tn = checkS regs l := by unfold backE; rw [if_pos hc]
theorem back_good {regs : Int} {f : Fo} (g : Good regs f) {r w t : List UInt64} (hn : (r.length : Int) = regs) (ha : (w.length : Int) = regs) (ht : f.unroll.length ≤ t.length) :
    backX regs f.flat r w t = (backR f.unroll t r w).1 ∧ backY regs f.flat r w t = (backR f.unroll t r w).2 := by
  unfold backX backY
  rw [if_pos (backE_of_good g hn ha ht), if_pos (backE_of_good g hn ha ht), unrS_good g]
  exact ⟨rfl, rfl⟩
theorem back_no {regs : Int} {l : List OpD} {r w t : List UInt64} (h : backE regs l r.length w.length t.length ≠ 0) : backX regs l r w t = r ∧ backY regs l r w t = w := by
  unfold backX backY
  rw [if_neg h, if_neg h]
  exact ⟨rfl, rfl⟩
set_option maxRecDepth 100000 in
set_option maxHeartbeats 1600000 in
theorem Back_good (regs : Int) (a : Option Addr) (c : Nat) (f : Fo) (g : Good regs f) (gr nr cr ga na ca : Nat) (ta : Option Addr) (nt ct Br Ba : Nat) (r0 a0 t0 : List UInt64) (w : World) (h : At w a f.flat)
    (hr : Own w Br 50 (some ⟨gr, 0, none⟩) cr r0) (ha : Own w Ba 50 (some ⟨ga, 0, none⟩) ca a0) (ht : At w ta t0) (hnr : nr = r0.length) (hna : na = a0.length) (hnt : nt = t0.length) (hnt6 : nt ≤ 1000000)
    (hn : (r0.length : Int) = regs) (hal : (a0.length : Int) = regs) (hu : f.unroll.length ≤ t0.length) (hrga : gr ≠ ga) (hne : ∀ q, ta.map (·.block) = some q → q ≠ gr ∧ q ≠ ga) :
    Calls Tryz.prog 127 #[.agg #[.int .i64 regs, .slice a f.flat.length c], .slice (some ⟨gr, 0, none⟩) nr cr, .slice (some ⟨ga, 0, none⟩) na ca, .slice ta nt ct] w fun e w' => e = .returned (.int .i64 0) ∧ Own w' Br 50 (some ⟨gr, 0, none⟩) cr (backR f.unroll t0 r0 a0).1 ∧ Own w' Ba 50 (some ⟨ga, 0, none⟩) ca (backR f.unroll t0 r0 a0).2 ∧ Turned [gr, ga] w w' := by
  have hl : f.flat.length ≤ 4096 := g.len
  have h1 := h.belowN (below_new12 w (.cells #[.int .i64 regs, .slice a f.flat.length c] 24))
  have hb0 := below_new12 w (.cells #[.int .i64 regs, .slice a f.flat.length c] 24)
  have HP := hide (Code_calls regs a c f.flat _ h1 (by omega))
  have HSZ := hide (fun w' (g : At w' a f.flat) => SizeW_calls a c f.flat w' g (by omega))
  unfold CodePost at HP
  rw [g.check, codeS_good g] at HP
  rw [g.sizeW.1, g.sizeW.2] at HSZ
  have hul : f.unroll.length ≤ 65536 := by rw [Fo.unroll_length]; exact g.few
  obtain ⟨r1, r2⟩ : 1 ≤ regs ∧ regs ≤ 64 := ⟨g.r1, g.r2⟩
  have hr1 := hr.belowN hb0
  have ha1 := ha.belowN hb0
  have ht1 := ht.belowN hb0
  have hgr := (hr.blk gr rfl).2
  have hga := (ha.blk ga rfl).2
  have HX := hide fun ac cc W hc hcb o1 o2 o3 => back_calls regs f g ac cc gr nr cr ga na ca ta nt ct Br Ba f.unroll.length r0 a0 t0 W rfl hc hcb o1 hn o2 hal hrga hnr hna hnt hnt6 o3 hu hne
  have b1 : ((nr : Int) != regs) = false := by simp; omega
  have b2 : ((na : Int) != regs) = false := by simp; omega
  have b3 : f.unroll.length ≤ nt := by omega
  have b4 : nr ≤ 64 := by omega
  have b5 : na ≤ 64 := by omega
  generalize f.unroll = U at *
  generalize f.bare.code 0 = code at *
  clear g hn hal hu hne hnr hna hnt
  go_enter Tryz.func127, Tryz.ntmps127
  go_wp2_with (first
    | (go_at_call 47; ((with_reducible refine (HP.out).mono ?_); rintro e w1 ⟨a1, c1, rfl, hown1, hb1⟩; have hbx := (Blk.new w 24 #[.int .i64 regs, .slice a f.flat.length c]).belowN hb1; obtain ⟨p0, p1, p2, p3⟩ := hbx.c2; have h2 := h1.belowN hb1; have hB1 := hb0.trans (hb1.mono hb0.size); have hz1 := hb1.size; simp at hz1))
    | (go_at_call 58; go_must ((with_reducible refine (HSZ.out _ h2).mono ?_); rintro e w2 ⟨rfl, hb2⟩; have hbx2 := hbx.belowN hb2; obtain ⟨q0, q1, q2, q3⟩ := hbx2.c2; have hB2 := hB1.trans (hb2.mono hB1.size); have hz2 := hb2.size))
    | (go_at_call 159; go_must ((with_reducible refine (HX.out _ _ _ (hown1.belowN hb2).at_ (fun _ q hq => by have := (hown1.blk q hq).1; simp at this; omega) ((hr1.belowN hb1).belowN hb2) ((ha1.belowN hb1).belowN hb2) ((ht1.belowN hb1).belowN hb2)).mono ?_); rintro e w3 ⟨rfl, hown3, hown4, hT⟩)))
  go_ret
  exact ⟨rfl, hown3, hown4, (Turned.ofBelow hB2).trans hT (fun q hq => .inl hq)⟩
set_option maxRecDepth 100000 in
set_option maxHeartbeats 1600000 in
theorem Back_dims1 (regs : Int) (a : Option Addr) (c : Nat) (f : Fo) (g : Good regs f) (ra : Option Addr) (nr cr : Nat) (aa : Option Addr) (na ca : Nat) (ta : Option Addr) (nt ct : Nat) (w : World) (h : At w a f.flat) (b4 : nr ≤ 1000000) (b5 : na ≤ 1000000) (hnt6 : nt ≤ 1000000) (hn : ¬ (nr : Int) = regs) :
    Calls Tryz.prog 127 #[.agg #[.int .i64 regs, .slice a f.flat.length c], .slice ra nr cr, .slice aa na ca, .slice ta nt ct] w fun e w' => e = .returned (.int .i64 10) ∧ Below w.heap.size w w' := by
  have hl : f.flat.length ≤ 4096 := g.len
  have h1 := h.belowN (below_new12 w (.cells #[.int .i64 regs, .slice a f.flat.length c] 24))
  have hb0 := below_new12 w (.cells #[.int .i64 regs, .slice a f.flat.length c] 24)
  have HP := hide (Code_calls regs a c f.flat _ h1 (by omega))
  have HSZ := hide (fun w' (g : At w' a f.flat) => SizeW_calls a c f.flat w' g (by omega))
  unfold CodePost at HP
  rw [g.check, codeS_good g] at HP
  rw [g.sizeW.1, g.sizeW.2] at HSZ
  have hul : f.unroll.length ≤ 65536 := by rw [Fo.unroll_length]; exact g.few
  obtain ⟨r1, r2⟩ : 1 ≤ regs ∧ regs ≤ 64 := ⟨g.r1, g.r2⟩
  have b1 : ((nr : Int) != regs) = true := (by simpa using hn); clear hn
  generalize f.unroll = U at *
  clear g
  go_enter Tryz.func127, Tryz.ntmps127
  go_wp2_with (first
    | (go_at_call 47; ((with_reducible refine (HP.out).mono ?_); rintro e w1 ⟨a1, c1, rfl, hown1, hb1⟩; have hbx := (Blk.new w 24 #[.int .i64 regs, .slice a f.flat.length c]).belowN hb1; obtain ⟨p0, p1, p2, p3⟩ := hbx.c2; have h2 := h1.belowN hb1; have hB1 := hb0.trans (hb1.mono hb0.size); have hz1 := hb1.size; simp at hz1))
    | (go_at_call 58; go_must ((with_reducible refine (HSZ.out _ h2).mono ?_); rintro e w2 ⟨rfl, hb2⟩; have hbx2 := hbx.belowN hb2; obtain ⟨q0, q1, q2, q3⟩ := hbx2.c2; have hB2 := hB1.trans (hb2.mono hB1.size); have hz2 := hb2.size))
    | fail)
  go_ret
  exact ⟨rfl, hB2⟩
set_option maxRecDepth 100000 in
set_option maxHeartbeats 1600000 in
theorem Back_dims2 (regs : Int) (a : Option Addr) (c : Nat) (f : Fo) (g : Good regs f) (ra : Option Addr) (nr cr : Nat) (aa : Option Addr) (na ca : Nat) (ta : Option Addr) (nt ct : Nat) (w : World) (h : At w a f.flat) (b4 : nr ≤ 1000000) (b5 : na ≤ 1000000) (hnt6 : nt ≤ 1000000) (hn : (nr : Int) = regs) (hm : ¬ (na : Int) = regs) :
    Calls Tryz.prog 127 #[.agg #[.int .i64 regs, .slice a f.flat.length c], .slice ra nr cr, .slice aa na ca, .slice ta nt ct] w fun e w' => e = .returned (.int .i64 10) ∧ Below w.heap.size w w' := by
  have hl : f.flat.length ≤ 4096 := g.len
  have h1 := h.belowN (below_new12 w (.cells #[.int .i64 regs, .slice a f.flat.length c] 24))
  have hb0 := below_new12 w (.cells #[.int .i64 regs, .slice a f.flat.length c] 24)
  have HP := hide (Code_calls regs a c f.flat _ h1 (by omega))
  have HSZ := hide (fun w' (g : At w' a f.flat) => SizeW_calls a c f.flat w' g (by omega))
  unfold CodePost at HP
  rw [g.check, codeS_good g] at HP
  rw [g.sizeW.1, g.sizeW.2] at HSZ
  have hul : f.unroll.length ≤ 65536 := by rw [Fo.unroll_length]; exact g.few
  obtain ⟨r1, r2⟩ : 1 ≤ regs ∧ regs ≤ 64 := ⟨g.r1, g.r2⟩
  have b1 : ((nr : Int) != regs) = false := (by simpa using hn); have b2 : ((na : Int) != regs) = true := (by simpa using hm); clear hn hm
  generalize f.unroll = U at *
  clear g
  go_enter Tryz.func127, Tryz.ntmps127
  go_wp2_with (first
    | (go_at_call 47; ((with_reducible refine (HP.out).mono ?_); rintro e w1 ⟨a1, c1, rfl, hown1, hb1⟩; have hbx := (Blk.new w 24 #[.int .i64 regs, .slice a f.flat.length c]).belowN hb1; obtain ⟨p0, p1, p2, p3⟩ := hbx.c2; have h2 := h1.belowN hb1; have hB1 := hb0.trans (hb1.mono hb0.size); have hz1 := hb1.size; simp at hz1))
    | (go_at_call 58; go_must ((with_reducible refine (HSZ.out _ h2).mono ?_); rintro e w2 ⟨rfl, hb2⟩; have hbx2 := hbx.belowN hb2; obtain ⟨q0, q1, q2, q3⟩ := hbx2.c2; have hB2 := hB1.trans (hb2.mono hB1.size); have hz2 := hb2.size))
    | fail)
  go_ret
  exact ⟨rfl, hB2⟩
set_option maxRecDepth 100000 in
set_option maxHeartbeats 1600000 in
theorem Back_full (regs : Int) (a : Option Addr) (c : Nat) (f : Fo) (g : Good regs f) (ra : Option Addr) (nr cr : Nat) (aa : Option Addr) (na ca : Nat) (ta : Option Addr) (nt ct : Nat) (w : World) (h : At w a f.flat) (b4 : nr ≤ 1000000) (b5 : na ≤ 1000000) (hnt6 : nt ≤ 1000000) (hn : (nr : Int) = regs) (hm : (na : Int) = regs) (hu : ¬ f.unroll.length ≤ nt) :
    Calls Tryz.prog 127 #[.agg #[.int .i64 regs, .slice a f.flat.length c], .slice ra nr cr, .slice aa na ca, .slice ta nt ct] w fun e w' => e = .returned (.int .i64 15) ∧ Below w.heap.size w w' := by
  have hl : f.flat.length ≤ 4096 := g.len
  have h1 := h.belowN (below_new12 w (.cells #[.int .i64 regs, .slice a f.flat.length c] 24))
  have hb0 := below_new12 w (.cells #[.int .i64 regs, .slice a f.flat.length c] 24)
  have HP := hide (Code_calls regs a c f.flat _ h1 (by omega))
  have HSZ := hide (fun w' (g : At w' a f.flat) => SizeW_calls a c f.flat w' g (by omega))
  unfold CodePost at HP
  rw [g.check, codeS_good g] at HP
  rw [g.sizeW.1, g.sizeW.2] at HSZ
  have hul : f.unroll.length ≤ 65536 := by rw [Fo.unroll_length]; exact g.few
  obtain ⟨r1, r2⟩ : 1 ≤ regs ∧ regs ≤ 64 := ⟨g.r1, g.r2⟩
  have b1 : ((nr : Int) != regs) = false := (by simpa using hn); have b2 : ((na : Int) != regs) = false := (by simpa using hm); have b3 : nt < f.unroll.length := (by omega); clear hn hm hu
  generalize f.unroll = U at *
  clear g
  go_enter Tryz.func127, Tryz.ntmps127
  go_wp2_with (first
    | (go_at_call 47; ((with_reducible refine (HP.out).mono ?_); rintro e w1 ⟨a1, c1, rfl, hown1, hb1⟩; have hbx := (Blk.new w 24 #[.int .i64 regs, .slice a f.flat.length c]).belowN hb1; obtain ⟨p0, p1, p2, p3⟩ := hbx.c2; have h2 := h1.belowN hb1; have hB1 := hb0.trans (hb1.mono hb0.size); have hz1 := hb1.size; simp at hz1))
    | (go_at_call 58; go_must ((with_reducible refine (HSZ.out _ h2).mono ?_); rintro e w2 ⟨rfl, hb2⟩; have hbx2 := hbx.belowN hb2; obtain ⟨q0, q1, q2, q3⟩ := hbx2.c2; have hB2 := hB1.trans (hb2.mono hB1.size); have hz2 := hb2.size))
    | fail)
  go_ret
  exact ⟨rfl, hB2⟩
set_option maxHeartbeats 800000 in
theorem Back_bad (regs : Int) (a : Option Addr) (c : Nat) (l : List OpD) (ra : Option Addr) (nr cr : Nat) (aa : Option Addr) (na ca : Nat) (ta : Option Addr) (nt ct : Nat) (w : World) (h : At w a l) (hl : l.length ≤ 1000000) (hc : checkS regs l ≠ 0) :
    Calls Tryz.prog 127 #[.agg #[.int .i64 regs, .slice a l.length c], .slice ra nr cr, .slice aa na ca, .slice ta nt ct] w fun e w' => e = .returned (.int .i64 (checkS regs l)) ∧ Below w.heap.size w w' := by
  have h1 := h.belowN (below_new12 w (.cells #[.int .i64 regs, .slice a l.length c] 24))
  have hb0 := below_new12 w (.cells #[.int .i64 regs, .slice a l.length c] 24)
  have HP := hide (Code_calls regs a c l _ h1 hl)
  obtain ⟨E, hE⟩ : ∃ E, E = checkS regs l := ⟨_, rfl⟩
  unfold CodePost at HP
  rw [← hE] at HP hc ⊢
  have e1 : (E == 0) = false := by simpa using hc
  have e2 : (E != 0) = true := by simpa using hc
  clear hE hc
  go_enter Tryz.func127, Tryz.ntmps127
  go_wp2_with (go_at_call 47; ((with_reducible refine (HP.out).mono ?_); rintro e w1 ⟨a1, c1, rfl, hown1, hb1⟩))
  go_ret
  exact ⟨rfl, hb0.trans (hb1.mono hb0.size)⟩
theorem Back_calls (regs : Int) (a : Option Addr) (c ln : Nat) (l : List OpD) (hln : ln = l.length) (ra : Option Addr) (nr cr : Nat) (aa : Option Addr) (na ca : Nat) (ta : Option Addr) (nt ct Br Ba : Nat) (r0 a0 t0 X Y : List UInt64) (E : Int) (hnr : nr = r0.length) (hna : na = a0.length) (hnt : nt = t0.length)
    (hE : backE regs l nr na nt = E) (hX : backX regs l r0 a0 t0 = X) (hY : backY regs l r0 a0 t0 = Y) (w : World) (h : At w a l) (hl : ln ≤ 1000000)
    (hr : Own w Br 50 ra cr r0) (ha : Own w Ba 50 aa ca a0) (ht : At w ta t0) (b4 : nr ≤ 1000000) (b5 : na ≤ 1000000) (hnt6 : nt ≤ 1000000)
    (hd : ∀ q, ra.map (·.block) = some q → aa.map (·.block) ≠ some q) (hne : ∀ q, ta.map (·.block) = some q → ra.map (·.block) ≠ some q ∧ aa.map (·.block) ≠ some q) :
    Calls Tryz.prog 127 #[.agg #[.int .i64 regs, .slice a ln c], .slice ra nr cr, .slice aa na ca, .slice ta nt ct] w fun e w' => e = .returned (.int .i64 E) ∧ Own w' Br 50 ra cr X ∧ Own w' Ba 50 aa ca Y ∧ Turned (blkL ra ++ blkL aa) w w' := by
  subst hln hE hX hY
  by_cases hc : backE regs l nr na nt = 0
  · rw [hc]
    rw [hnr, hna, hnt] at hc
    obtain ⟨f, rfl, g, hn, hm, hu⟩ := backE_good hc
    obtain ⟨e1, e2⟩ := back_good g hn hm hu
    rw [e1, e2]
    have hr1 := g.r1
    obtain ⟨gr, rfl, _⟩ := hr.some_ (by intro e; rw [e] at hn; simp at hn; omega)
    obtain ⟨ga, rfl, _⟩ := ha.some_ (by intro e; rw [e] at hm; simp at hm; omega)
    exact Back_good regs a c f g gr nr cr ga na ca ta nt ct Br Ba r0 a0 t0 w h hr ha ht hnr hna hnt hnt6 hn hm hu (fun e => hd gr rfl (by rw [e]; rfl)) (fun q hq => ⟨fun e => (hne q hq).1 (by rw [e]; rfl), fun e => (hne q hq).2 (by rw [e]; rfl)⟩)
  · have hc2 : backE regs l r0.length a0.length t0.length ≠ 0 := by rw [← hnr, ← hna, ← hnt]; exact hc
    obtain ⟨e1, e2⟩ := back_no hc2
    rw [e1, e2]
    have key : Calls Tryz.prog 127 #[.agg #[.int .i64 regs, .slice a l.length c], .slice ra nr cr, .slice aa na ca, .slice ta nt ct] w fun e w' => e = .returned (.int .i64 (backE regs l nr na nt)) ∧ Below w.heap.size w w' := by
      by_cases h0 : checkS regs l = 0
      · obtain ⟨f, rfl, g⟩ := good_of_check h0
        by_cases hn : (nr : Int) = regs
        · by_cases hm : (na : Int) = regs
          · have hu : ¬ f.unroll.length ≤ nt := fun hu => hc (backE_of_good g hn hm hu)
            rw [backE_full g hn hm hu]
            exact Back_full regs a c f g ra nr cr aa na ca ta nt ct w h b4 b5 hnt6 hn hm hu
          · rw [backE_dims g (.inr hm)]
            exact Back_dims2 regs a c f g ra nr cr aa na ca ta nt ct w h b4 b5 hnt6 hn hm
        · rw [backE_dims g (.inl hn)]
          exact Back_dims1 regs a c f g ra nr cr aa na ca ta nt ct w h b4 b5 hnt6 hn
      · rw [backE_bad h0]
        exact Back_bad regs a c l ra nr cr aa na ca ta nt ct w h hl h0
    refine key.mono ?_
    rintro e w' ⟨rfl, hb⟩
    exact ⟨rfl, hr.belowN hb, ha.belowN hb, Turned.ofBelow hb⟩
end Go.Proofs.YtcamcnahkdiefaaGreat

/- Chapter 21: TapeBack. -/
namespace Go.Proofs.YtcamcnahkdiefaaGreat
set_option linter.unusedVariables false
set_option linter.unusedSimpArgs false
open Go.RowKit
def zerosU (n : Nat) : Array Value := (List.replicate n (Value.int .u64 0)).toArray
theorem zeros_made (n : Nat) : madeCells #[Value.int .u64 0] n = zerosU n := by
  apply Array.ext
  · simp [madeCells, zerosU]
  · intro i h1 h2
    simp [madeCells, zerosU, Nat.mod_one]
theorem mkU (n : Nat) (N : Int) (hN : N = (n : Int)) (hn : n ≤ 1000000000) (W : World) : (Instr.makeSlice 46 (.int .i64 N) (.int .i64 N)).run Tryz.prog W = .ok (.slice (some ⟨W.heap.size, 0, none⟩) n n) (W.alloc (.cells (zerosU n) 50)) := by
  subst hN
  rw [← zeros_made]
  exact run_make_row' 46 50 (.int .u64 0) 8 Tryz.underlying46 (by kernel_rfl) rfl .i64 .i64 n (by omega) (by omega) W
theorem ownZ {B : Nat} (W : World) (hB : B ≤ W.heap.size) (n : Nat) (hn : n ≤ 1000000000) : Own (W.alloc (.cells (zerosU n) 50)) B 50 (some ⟨W.heap.size, 0, none⟩) n (List.replicate n (0 : UInt64)) :=
  Own.made W hB 50 (zerosU n) _ (by rw [enc_map, List.map_replicate]; rfl) (by rw [List.length_replicate]; unfold maxLen; omega) n (by rw [List.length_replicate])
end Go.Proofs.YtcamcnahkdiefaaGreat

/- Chapter 22: Pull. -/
namespace Go.Proofs.YtcamcnahkdiefaaGreat
set_option linter.unusedVariables false
set_option linter.unusedSimpArgs false
open Go.RowKit
theorem tyNU : TyN Tryz.prog 46 50 (0 : UInt64) := TyN.of (z := .int .u64 0) (size := 1) (bytes := 8) Tryz.underlying46 (by kernel_rfl) rfl (by decide) rfl
set_option maxRecDepth 100000 in
set_option maxHeartbeats 1600000 in
theorem Full_calls (nr : Nat) (g : Nat) (pv : Value) (ra : Option Addr) (rn rc : Nat) (r : List UInt64) (hrn : rn = r.length) (w : World) (hb : Blk w g 24 #[.int .i64 (nr : Int), pv]) (hr : At w ra r) (h1 : rn ≤ nr) (h2 : nr ≤ 64) :
    Calls Tryz.prog 125 #[.slice ra rn rc, .pointer (some ⟨g, 0, none⟩)] w fun e w' => ∃ a' c', e = .returned (.slice a' nr c') ∧ Own w' w.heap.size 50 a' c' (startR nr r) ∧ Below w.heap.size w w' := by
  have HRN := hide hrn
  have hlt := hb.lt
  obtain ⟨b0, b1, b2, b3⟩ := hb.c2
  obtain ⟨d, hd⟩ : ∃ d : Nat, d = nr - rn := ⟨_, rfl⟩
  have hd1 : rn + d ≤ nr := by omega
  have hd2 : nr ≤ rn + d := by omega
  have hst : startR nr r = r ++ List.replicate d 0 := by unfold startR; rw [← hrn, hd]
  have HST := hide hst
  have hd0 : Below w.heap.size w w.drew := Below.drew (Below.refl _ _)
  have hrd : At w.drew ra r := hr
  have HWR : Hid (IntKind.i64.wrap ((nr : Int) - (rn : Int)) = (d : Int)) := by show _ = _; rw [IntWalk.i64_in _ (by omega)]; omega
  clear hrn hst hd
  go_enter Tryz.func125, Tryz.ntmps125
  go_wp2_with fail
  go_region_held3 (fun w' => w'.cell? ⟨g, 0, none⟩ = some (.int .i64 (nr : Int))) (go_keep)
    (first
      | (go_at_call 79; go_must ((with_reducible refine (CloneU_calls ra rn rc r w.drew HRN.out hrd (by omega)).mono ?_); rintro e w1 ⟨a1, c1, rfl, hown1, hb1⟩; have hB1 := hd0.trans (hb1.mono hd0.size); obtain ⟨y0, _⟩ := bcell hB1; have t0 := (y0 g 0 hlt).trans b0; clear y0))
      | (refine step_zeros tyNU (Tn := 3) Tryz.underlying3 (m := d) hown1 rfl rfl rfl rfl (by first | exact HWR.out | omega) HRN.out hB1.size (by omega) (by omega) ?_; intro a2 c2 w2 hown2 hg2 _; have hB2 := below_push hB1 hown1 hg2 hB1.size; obtain ⟨y0, _⟩ := bcell hB2; have t1 := (y0 g 0 hlt).trans b0; clear y0))
  go_wp2
  go_ret
  rw [HST.out]
  have e : rn + d = nr := by omega
  exact ⟨a2, c2, by rw [← e]; rfl, hown2, hB2⟩
def pullE (regs : Int) (l : List OpD) (rn wn : Nat) : Int := if checkS regs l ≠ 0 then checkS regs l else if regs < (rn : Int) ∨ regs < (wn : Int) then 10 else 0
noncomputable def pullA (regs : Int) (l : List OpD) (r w : List UInt64) : List UInt64 := if pullE regs l r.length w.length = 0 then backA (unrS regs l) (startR regs.toNat r) (startR regs.toNat w) else []
theorem pull_good {regs : Int} {l : List OpD} {rn wn : Nat} (h : pullE regs l rn wn = 0) : ∃ f : Fo, l = f.flat ∧ Good regs f ∧ (rn : Int) ≤ regs ∧ (wn : Int) ≤ regs := by
  unfold pullE at h
  by_cases hc : checkS regs l = 0
  · rw [if_neg (by simpa using hc)] at h
    obtain ⟨f, rfl, g⟩ := good_of_check hc
    by_cases hn : regs < (rn : Int) ∨ regs < (wn : Int)
    · rw [if_pos hn] at h; cases h
    · exact ⟨f, rfl, g, by omega, by omega⟩
  · rw [if_pos hc] at h; exact absurd h hc
theorem pull_of_good {regs : Int} {f : Fo} (g : Good regs f) {rn wn : Nat} (hn : (rn : Int) ≤ regs) (hw : (wn : Int) ≤ regs) : pullE regs f.flat rn wn = 0 := by
  unfold pullE
  rw [if_neg (by simpa using g.check), if_neg (by omega)]
theorem pullE_dims {regs : Int} {f : Fo} (g : Good regs f) {rn wn : Nat} (h : regs < (rn : Int) ∨ regs < (wn : Int)) : pullE regs f.flat rn wn = 10 := by
  unfold pullE
  rw [if_neg (by simpa using g.check), if_pos h]
theorem pullE_bad {regs : Int} {l : List OpD} {rn wn : Nat} (hc : checkS regs l ≠ 0) : pullE regs l rn wn = checkS regs l := by unfold pullE; rw [if_pos hc]
theorem pullA_good {regs : Int} {f : Fo} (g : Good regs f) {r w : List UInt64} (hn : (r.length : Int) ≤ regs) (hw : (w.length : Int) ≤ regs) : pullA regs f.flat r w = backA f.unroll (startR regs.toNat r) (startR regs.toNat w) := by
  unfold pullA
  rw [if_pos (pull_of_good g hn hw), unrS_good g]
theorem pullA_bad {regs : Int} {l : List OpD} {r w : List UInt64} (h : pullE regs l r.length w.length ≠ 0) : pullA regs l r w = [] := by unfold pullA; rw [if_neg h]
set_option maxRecDepth 100000 in
set_option maxHeartbeats 3200000 in
theorem Pull_good (nr : Nat) (a : Option Addr) (c : Nat) (f : Fo) (g : Good nr f) (ra : Option Addr) (rn rc : Nat) (r : List UInt64) (hrn : rn = r.length) (wa : Option Addr) (wn wc : Nat) (w0 : List UInt64) (hwn : wn = w0.length) (w : World) (h : At w a f.flat) (hr : At w ra r) (hw : At w wa w0) (h1 : rn ≤ nr) (h2 : wn ≤ nr) :
    Calls Tryz.prog 81 #[.agg #[.int .i64 (nr : Int), .slice a f.flat.length c], .slice ra rn rc, .slice wa wn wc] w fun e w' => ∃ a' c', e = .returned (.tuple #[.slice a' nr c', .int .i64 0]) ∧ Own w' w.heap.size 50 a' c' (backA f.unroll (startR nr r) (startR nr w0)) ∧ Below w.heap.size w w' := by
  have hb0 := below_new12 w (.cells #[.int .i64 (nr : Int), .slice a f.flat.length c] 24)
  have hX := Blk.new w 24 #[.int .i64 (nr : Int), .slice a f.flat.length c]
  have hl : f.flat.length ≤ 4096 := g.len
  have g1 := h.belowN hb0
  have hr1 := hr.belowN hb0
  have hw1 := hw.belowN hb0
  have r2 : nr ≤ 64 := by have := g.r2; omega
  have r1 : 1 ≤ nr := by have := g.r1; omega
  have HSZ := hide (fun w' (h : At w' a f.flat) => SizeW_calls a c f.flat w' h (by omega))
  rw [g.sizeW.1, g.sizeW.2] at HSZ
  have HP := hide (fun w' (h : At w' a f.flat) => Code_calls nr a c f.flat w' h (by omega))
  unfold CodePost at HP
  rw [g.check, codeS_good g] at HP
  have hul : f.unroll.length ≤ 65536 := by rw [Fo.unroll_length]; exact g.few
  have HRN := hide hrn
  have HWN := hide hwn
  obtain ⟨U, hU⟩ : ∃ U, f.unroll = U := ⟨_, rfl⟩
  have HU := hide hU
  have HG := hide g
  rw [hU] at HSZ hul
  rw [hU]
  clear hrn hwn hU g
  have HF1 : Hid (∀ W, Below (w.alloc (.cells #[.int .i64 (nr : Int), .slice a f.flat.length c] 24)).heap.size (w.alloc (.cells #[.int .i64 (nr : Int), .slice a f.flat.length c] 24)) W → Calls Tryz.prog 125 #[.slice ra rn rc, .pointer (some ⟨w.heap.size, 0, none⟩)] W fun e w' => ∃ a' c', e = .returned (.slice a' nr c') ∧ Own w' W.heap.size 50 a' c' (startR nr r) ∧ Below W.heap.size W w') :=
    hide fun W hb => Full_calls nr w.heap.size _ ra rn rc r HRN.out W (hX.belowN hb) (hr1.belowN hb) h1 r2
  have HF2 : Hid (∀ W, Below (w.alloc (.cells #[.int .i64 (nr : Int), .slice a f.flat.length c] 24)).heap.size (w.alloc (.cells #[.int .i64 (nr : Int), .slice a f.flat.length c] 24)) W → Calls Tryz.prog 125 #[.slice wa wn wc, .pointer (some ⟨w.heap.size, 0, none⟩)] W fun e w' => ∃ a' c', e = .returned (.slice a' nr c') ∧ Own w' W.heap.size 50 a' c' (startR nr w0) ∧ Below W.heap.size W w') :=
    hide fun W hb => Full_calls nr w.heap.size _ wa wn wc w0 HWN.out W (hX.belowN hb) (hw1.belowN hb) h2 r2
  obtain ⟨Rs, hRs⟩ : ∃ Rs, startR nr r = Rs := ⟨_, rfl⟩
  obtain ⟨Ws, hWs⟩ : ∃ Ws, startR nr w0 = Ws := ⟨_, rfl⟩
  have hRl : Rs.length = nr := by rw [← hRs, startR_length _ _ (by rw [← HRN.out]; exact h1)]
  have hWl : Ws.length = nr := by rw [← hWs, startR_length _ _ (by rw [← HWN.out]; exact h2)]
  rw [hRs] at HF1 ⊢
  rw [hWs] at HF2 ⊢
  obtain ⟨tn, htn⟩ : ∃ tn, tn = U.length := ⟨_, rfl⟩
  rw [← htn] at HSZ hul
  have HTN := hide htn
  obtain ⟨Z, hZ⟩ : ∃ Z, Z = List.replicate tn (0 : UInt64) := ⟨_, rfl⟩
  have hZl : Z.length = tn := by rw [hZ, List.length_replicate]
  have gg := HG.out
  obtain ⟨k1, k2, k3, _⟩ := rec_good gg (r := Rs) (t := Z) (by omega) (by rw [HU.out]; omega)
  rw [HU.out] at k1 k2 k3
  rw [hRl, hZl, ← htn] at k3
  have k4 : readyS nr f.flat nr tn = 0 := ready_of_good gg rfl (by rw [HU.out]; omega)
  obtain ⟨R1, hR1⟩ : ∃ R1, runR U Rs = R1 := ⟨_, rfl⟩
  obtain ⟨T1, hT1⟩ : ∃ T1, tpR U Rs Z = T1 := ⟨_, rfl⟩
  have hR1l : R1.length = nr := by rw [← hR1, runR_length, hRl]
  have hT1l : T1.length = tn := by rw [← hT1, tpR_length _ _ _ (by omega), hZl]
  rw [hR1] at k1
  rw [hT1] at k2
  obtain ⟨k5, k6⟩ := back_good gg (r := R1) (w := Ws) (t := T1) (by omega) (by omega) (by rw [HU.out]; omega)
  rw [HU.out, ← hR1, ← hT1, back_tp] at k5 k6
  rw [hR1, hT1] at k5 k6
  simp only at k5 k6
  have k7 : backE nr f.flat nr nr tn = 0 := backE_of_good gg rfl rfl (by rw [HU.out]; omega)
  have K1 := hide k1
  have K2 := hide k2
  have K3 := hide k3
  have K4 := hide k4
  have K5 := hide k5
  have K6 := hide k6
  have K7 := hide k7
  have HZ := hide hZ
  have HZL := hide hZl.symm
  have HR1L := hide hR1l.symm
  have HT1L := hide hT1l.symm
  clear gg k1 k2 k3 k4 k5 k6 k7 hR1 hT1 hZ hZl hR1l hT1l
  have HRL := hide hRl.symm
  have HWL := hide hWl.symm
  clear hRs hWs hRl hWl htn hr hw hr1 hw1 h
  have hm1 : (rn : Int) ≤ nr := by omega
  have hm2 : (wn : Int) ≤ nr := by omega
  go_enter Tryz.func81, Tryz.ntmps81
  go_wp2_with (first
    | (go_at_call 58; go_must ((with_reducible refine (HSZ.out _ g1).mono ?_); rintro e w1 ⟨rfl, hC1⟩; have hz1 := hC1.size; obtain ⟨q0, q1, q2, q3⟩ := (hX.belowN hC1).c2))
    | (go_at_call 47; go_must ((with_reducible refine (HP.out _ (g1.belowN hC1)).mono ?_); rintro e w2 ⟨a2, c2, rfl, hown2, hb2⟩; have hC2 := hC1.trans (hb2.mono hC1.size); obtain ⟨q0, q1, q2, q3⟩ := (hX.belowN hC2).c2)))
  all_goals
    have hNA := Below.drew hC2
    have hNC := Below.drew (hC2.trans ((below_new12 w2 (.cells (zerosU tn) 50)).mono hC2.size))
    have hmk := mkU tn (tn : Int) rfl (by omega)
    go_region_law (first
      | (have hgd := w3; go_simp; go_at_call 125; go_must ((with_reducible refine (HF2.out _ (by first | exact hC3 | exact hC3Z)).mono ?_); rintro e w4 ⟨a4, c4, rfl, hown4, hb4⟩))
      | (go_simp; go_at_call 125; go_must ((with_reducible refine (HF1.out _ (by first | exact hNA | exact hNC)).mono ?_); rintro e w3 ⟨a3, c3, rfl, hown3, hb3⟩; have hC3 : Below _ _ w3 := (by first | exact hNA.trans (hb3.mono hNA.size) | exact hNC.trans (hb3.mono hNC.size)); have hC3Z := hC3.trans ((below_new12 w3 (.cells (zerosU tn) 50)).mono hC3.size))))
  all_goals
    have hz2w : w.heap.size + 1 ≤ w2.heap.size := by have := hC2.size; simp at this; omega
    first
      | (have hT : Own w4 (w.heap.size + 1) 50 (some ⟨w2.heap.size, 0, none⟩) tn (List.replicate tn (0 : UInt64)) := (((ownZ (B := w2.heap.size) w2 (Nat.le_refl _) tn (by omega)).drew.belowN hb3).belowN hb4).mono hz2w
         have hz3 := hb3.size
         have hz4 := hb4.size
         simp only [World.size_drew, World.size_alloc] at hz3
         have hR : Own w4 (w.heap.size + 1) 50 a3 c3 Rs := (hown3.belowN hb4).mono (by simp; omega)
         have hA : Own w4 (w.heap.size + 1) 50 a4 c4 Ws := hown4.mono (by omega)
         have hC5 := hC3.trans (hb4.mono hC3.size)
         have hd1 : ∀ q, a3.map (·.block) = some q → a4.map (·.block) ≠ some q := fun q e1 e2 => by have h1 := (hown3.blk q e1).2; have h2 := (hown4.blk q e2).1; omega
         have hd2 : ∀ q, (some (⟨w2.heap.size, 0, none⟩ : Addr)).map (·.block) = some q → a3.map (·.block) ≠ some q ∧ a4.map (·.block) ≠ some q := fun q e => ⟨fun e1 => by have h1 := (hown3.blk q e1).1; simp at e h1; omega, fun e1 => by have h1 := (hown4.blk q e1).1; simp at e; omega⟩
         obtain ⟨gt, hgt⟩ : ∃ gt, gt = w2.heap.size := ⟨_, rfl⟩
         rw [← hgt] at hT hd2 ⊢
         clear hgt
         obtain ⟨w5, hw5⟩ : ∃ w5, w5 = w4 := ⟨_, rfl⟩
         rw [← hw5] at hT hR hA hC5 ⊢
         clear hw5)
      | (have hT : Own w4 (w.heap.size + 1) 50 (some ⟨w3.heap.size, 0, none⟩) tn (List.replicate tn (0 : UInt64)) := ((ownZ (B := w3.heap.size) w3 (Nat.le_refl _) tn (by omega)).belowN hb4).mono (by have := hC3.size; simp at this; omega)
         have hz3 := hb3.size
         have hz4 := hb4.size
         simp only [World.size_alloc] at hz4
         have hR : Own w4 (w.heap.size + 1) 50 a3 c3 Rs := ((hown3.alloc (.cells (zerosU tn) 50)).belowN hb4).mono (by simp; omega)
         have hA : Own w4 (w.heap.size + 1) 50 a4 c4 Ws := hown4.mono (by have := hC3.size; simp at this ⊢; omega)
         have hC5 := hC3Z.trans (hb4.mono hC3Z.size)
         have hd1 : ∀ q, a3.map (·.block) = some q → a4.map (·.block) ≠ some q := fun q e1 e2 => by have h1 := (hown3.blk q e1).2; have h2 := (hown4.blk q e2).1; simp at h2; omega
         have hd2 : ∀ q, (some (⟨w3.heap.size, 0, none⟩ : Addr)).map (·.block) = some q → a3.map (·.block) ≠ some q ∧ a4.map (·.block) ≠ some q := fun q e => ⟨fun e1 => by have h1 := (hown3.blk q e1).2; simp at e; omega, fun e1 => by have h1 := (hown4.blk q e1).1; simp at e h1; omega⟩
         generalize w3.heap.size = gt at *
         obtain ⟨w5, hw5⟩ : ∃ w5, w5 = w4 := ⟨_, rfl⟩
         rw [← hw5] at hT hR hA hC5 ⊢
         clear hw5)
      | (have hz3 := hb3.size
         have hz4 := hb4.size
         have hT := (ownZ (B := w4.heap.size) w4 (Nat.le_refl _) tn (by omega)).mono (show w.heap.size + 1 ≤ w4.heap.size by have := hC3.size; simp at this; omega)
         have hR : Own (w4.alloc (.cells (zerosU tn) 50)) (w.heap.size + 1) 50 a3 c3 Rs := ((hown3.belowN hb4).alloc _).mono (by simp; omega)
         have hA : Own (w4.alloc (.cells (zerosU tn) 50)) (w.heap.size + 1) 50 a4 c4 Ws := (hown4.alloc _).mono (by have := hC3.size; simp at this; omega)
         have hC4 := hC3.trans (hb4.mono hC3.size)
         have hC5 := hC4.trans ((below_new12 w4 (.cells (zerosU tn) 50)).mono hC4.size)
         have hd1 : ∀ q, a3.map (·.block) = some q → a4.map (·.block) ≠ some q := fun q e1 e2 => by have h1 := (hown3.blk q e1).2; have h2 := (hown4.blk q e2).1; omega
         have hd2 : ∀ q, (some (⟨w4.heap.size, 0, none⟩ : Addr)).map (·.block) = some q → a3.map (·.block) ≠ some q ∧ a4.map (·.block) ≠ some q := fun q e => ⟨fun e1 => by have h1 := (hown3.blk q e1).2; simp at e; omega, fun e1 => by have h1 := (hown4.blk q e1).2; simp at e; omega⟩
         generalize hw5 : w4.alloc (.cells (zerosU tn) 50) = w5 at *
         generalize w4.heap.size = gt at *
         clear hw5)
    rw [← HZ.out] at hT
    have hd3 : ∀ q, a3.map (·.block) = some q → (some (⟨gt, 0, none⟩ : Addr)).map (·.block) ≠ some q := fun q e1 e2 => (hd2 q e2).1 e1
    have hd4 : ∀ q, a4.map (·.block) = some q → (some (⟨gt, 0, none⟩ : Addr)).map (·.block) ≠ some q := fun q e1 e2 => (hd2 q e2).2 e1
    obtain ⟨u0, u1, u2, u3⟩ := (hX.belowN hC5).c2
    have hz5 := hC5.size
    simp only [World.size_alloc] at hz5
    go_wp2_with (first
      | (go_at_call 126; go_must ((with_reducible refine (RecordN nr a c _ f.flat rfl a3 c3 nr Rs HRL.out (w.heap.size + 1) (some ⟨gt, 0, none⟩) tn tn Z HZL.out (w.heap.size + 1) _ _ _ _ K3.out K4.out K1.out K2.out w5 (g1.belowN hC5) (by omega) hR hT (by omega) (by omega) hd3).mono ?_); rintro e w6 ⟨rfl, hR6, hT6, hTu6⟩; have hC6 := hTu6.below hC5 (fun q hq => by rcases List.mem_append.1 hq with hq | hq <;> first | (have h1 := (hR.blk q (blkL_mem.1 hq)).1; simp; omega) | (have h1 := (hT.blk q (blkL_mem.1 hq)).1; simp; omega)) hC5.size; have hA6 := hA.turned hTu6 (fun q e hq => by rcases List.mem_append.1 hq with hq | hq <;> first | exact hd1 q (blkL_mem.1 hq) e | exact hd4 q e (blkL_mem.1 hq)); have hz6 := hTu6.size; obtain ⟨p0, p1, p2, p3⟩ := (hX.belowN hC6).c2))
      | (go_at_call 127; go_must ((with_reducible refine (Back_calls nr a c _ f.flat rfl a3 nr c3 a4 nr c4 (some ⟨gt, 0, none⟩) tn tn (w.heap.size + 1) (w.heap.size + 1) R1 Ws T1 Rs (backA U Rs Ws) 0 HR1L.out HWL.out HT1L.out K7.out K5.out K6.out w6 (g1.belowN hC6) (by omega) hR6 hA6 hT6.at_ (by omega) (by omega) (by omega) hd1 hd2).mono ?_); rintro e w7 ⟨rfl, hR7, hA7, hTu7⟩; have hC7 := hTu7.below hC6 (fun q hq => by rcases List.mem_append.1 hq with hq | hq <;> first | (have h1 := (hR6.blk q (blkL_mem.1 hq)).1; simp; omega) | (have h1 := (hA6.blk q (blkL_mem.1 hq)).1; simp; omega)) hC6.size)))
    go_ret2
    exact ⟨a4, c4, rfl, hA7.mono (by omega), hb0.trans (hC7.mono hb0.size)⟩
set_option maxRecDepth 100000 in
set_option maxHeartbeats 1600000 in
theorem Pull_dims (nr : Nat) (a : Option Addr) (c : Nat) (f : Fo) (g : Good nr f) (ra : Option Addr) (rn rc : Nat) (wa : Option Addr) (wn wc : Nat) (w : World) (h : At w a f.flat) (b1 : rn ≤ 1000000) (b2 : wn ≤ 1000000) (hd : (nr : Int) < (rn : Int) ∨ (nr : Int) < (wn : Int)) :
    Calls Tryz.prog 81 #[.agg #[.int .i64 (nr : Int), .slice a f.flat.length c], .slice ra rn rc, .slice wa wn wc] w fun e w' => e = .returned (.tuple #[.slice none 0 0, .int .i64 10]) ∧ Below w.heap.size w w' := by
  have hb0 := below_new12 w (.cells #[.int .i64 (nr : Int), .slice a f.flat.length c] 24)
  have hX := Blk.new w 24 #[.int .i64 (nr : Int), .slice a f.flat.length c]
  have hl : f.flat.length ≤ 4096 := g.len
  have g1 := h.belowN hb0
  have r2 : nr ≤ 64 := by have := g.r2; omega
  have HSZ := hide (fun w' (h : At w' a f.flat) => SizeW_calls a c f.flat w' h (by omega))
  rw [g.sizeW.1, g.sizeW.2] at HSZ
  have HP := hide (fun w' (h : At w' a f.flat) => Code_calls nr a c f.flat w' h (by omega))
  unfold CodePost at HP
  rw [g.check, codeS_good g] at HP
  have hul : f.unroll.length ≤ 65536 := by rw [Fo.unroll_length]; exact g.few
  generalize f.unroll = U at *
  clear g
  rcases Nat.lt_or_ge rn wn with hm | hm
  · have hq : (nr : Int) < (wn : Int) := by omega
    have hm2 : (rn : Int) ≤ (wn : Int) := by omega
    clear hd
    go_enter Tryz.func81, Tryz.ntmps81
    go_wp2_with (first
      | (go_at_call 58; go_must ((with_reducible refine (HSZ.out _ g1).mono ?_); rintro e w1 ⟨rfl, hC1⟩; have hz1 := hC1.size; obtain ⟨q0, q1, q2, q3⟩ := (hX.belowN hC1).c2))
      | (go_at_call 47; go_must ((with_reducible refine (HP.out _ (g1.belowN hC1)).mono ?_); rintro e w2 ⟨a2, c2, rfl, hown2, hb2⟩; have hC2 := hC1.trans (hb2.mono hC1.size); obtain ⟨q0, q1, q2, q3⟩ := (hX.belowN hC2).c2)))
    all_goals
      go_ret2
      exact ⟨rfl, hb0.trans (hC2.mono hb0.size)⟩
  · have hq : (nr : Int) < (rn : Int) := by omega
    have hm2 : (wn : Int) ≤ (rn : Int) := by omega
    clear hd
    go_enter Tryz.func81, Tryz.ntmps81
    go_wp2_with (first
      | (go_at_call 58; go_must ((with_reducible refine (HSZ.out _ g1).mono ?_); rintro e w1 ⟨rfl, hC1⟩; have hz1 := hC1.size; obtain ⟨q0, q1, q2, q3⟩ := (hX.belowN hC1).c2))
      | (go_at_call 47; go_must ((with_reducible refine (HP.out _ (g1.belowN hC1)).mono ?_); rintro e w2 ⟨a2, c2, rfl, hown2, hb2⟩; have hC2 := hC1.trans (hb2.mono hC1.size); obtain ⟨q0, q1, q2, q3⟩ := (hX.belowN hC2).c2)))
    all_goals
      go_ret2
      exact ⟨rfl, hb0.trans (hC2.mono hb0.size)⟩
set_option maxRecDepth 100000 in
set_option maxHeartbeats 800000 in
theorem Pull_bad (regs : Int) (a : Option Addr) (c : Nat) (l : List OpD) (ra : Option Addr) (rn rc : Nat) (wa : Option Addr) (wn wc : Nat) (w : World) (h : At w a l) (hl : l.length ≤ 1000000) (hc : checkS regs l ≠ 0) :
    Calls Tryz.prog 81 #[.agg #[.int .i64 regs, .slice a l.length c], .slice ra rn rc, .slice wa wn wc] w fun e w' => e = .returned (.tuple #[.slice none 0 0, .int .i64 (checkS regs l)]) ∧ Below w.heap.size w w' := by
  have hb0 := below_new12 w (.cells #[.int .i64 regs, .slice a l.length c] 24)
  have hX := Blk.new w 24 #[.int .i64 regs, .slice a l.length c]
  have g1 := h.belowN hb0
  have HSZ := hide (fun w' (h : At w' a l) => SizeW_calls a c l w' h hl)
  have HP := hide (fun w' (h : At w' a l) => Code_calls regs a c l w' h hl)
  obtain ⟨E, hE⟩ : ∃ E, E = checkS regs l := ⟨_, rfl⟩
  unfold CodePost at HP
  rw [← hE] at HP hc ⊢
  have e1 : (E == 0) = false := by simpa using hc
  have e2 : (E != 0) = true := by simpa using hc
  clear hE hc
  go_enter Tryz.func81, Tryz.ntmps81
  go_wp2_with (first
    | (go_at_call 58; go_must ((with_reducible refine (HSZ.out _ g1).mono ?_); rintro e w1 ⟨rfl, hC1⟩; have hz1 := hC1.size; obtain ⟨q0, q1, q2, q3⟩ := (hX.belowN hC1).c2))
    | (go_at_call 47; go_must ((with_reducible refine (HP.out _ (g1.belowN hC1)).mono ?_); rintro e w2 ⟨a2, c2, rfl, hown2, hb2⟩; have hC2 := hC1.trans (hb2.mono hC1.size); obtain ⟨q0, q1, q2, q3⟩ := (hX.belowN hC2).c2)))
  go_ret2
  exact ⟨rfl, hb0.trans (hC2.mono hb0.size)⟩
theorem Pull_calls (regs : Int) (a : Option Addr) (c ln : Nat) (l : List OpD) (hln : ln = l.length) (ra : Option Addr) (rn rc : Nat) (r : List UInt64) (hrn : rn = r.length) (wa : Option Addr) (wn wc : Nat) (w0 : List UInt64) (hwn : wn = w0.length) (A : List UInt64) (E : Int) (hA : pullA regs l r w0 = A) (hE : pullE regs l rn wn = E) (w : World) (h : At w a l) (hl : ln ≤ 1000000) (hr : At w ra r) (hw : At w wa w0) (b1 : rn ≤ 1000000) (b2 : wn ≤ 1000000) :
    Calls Tryz.prog 81 #[.agg #[.int .i64 regs, .slice a ln c], .slice ra rn rc, .slice wa wn wc] w fun e w' => ∃ a' c', e = .returned (.tuple #[.slice a' A.length c', .int .i64 E]) ∧ Own w' w.heap.size 50 a' c' A ∧ Below w.heap.size w w' := by
  subst hln hA hE
  by_cases hc : pullE regs l rn wn = 0
  · rw [hc]
    obtain ⟨f, rfl, g, hn, hm⟩ := pull_good hc
    obtain ⟨nr, rfl⟩ : ∃ nr : Nat, regs = nr := ⟨regs.toNat, by have := g.r1; omega⟩
    rw [pullA_good g (by omega) (by omega)]
    refine (Pull_good nr a c f g ra rn rc r hrn wa wn wc w0 hwn w h hr hw (by omega) (by omega)).mono ?_
    rintro e w' ⟨a', c', rfl, o, hb⟩
    refine ⟨a', c', ?_, o, hb⟩
    rw [Int.toNat_natCast, backA_length, startR_length _ _ (by omega)]
  · rw [pullA_bad (by rw [← hrn, ← hwn]; exact hc)]
    have key : Calls Tryz.prog 81 #[.agg #[.int .i64 regs, .slice a l.length c], .slice ra rn rc, .slice wa wn wc] w fun e w' => e = .returned (.tuple #[.slice none 0 0, .int .i64 (pullE regs l rn wn)]) ∧ Below w.heap.size w w' := by
      by_cases h0 : checkS regs l = 0
      · obtain ⟨f, rfl, g⟩ := good_of_check h0
        obtain ⟨nr, rfl⟩ : ∃ nr : Nat, regs = nr := ⟨regs.toNat, by have := g.r1; omega⟩
        have hd : (nr : Int) < (rn : Int) ∨ (nr : Int) < (wn : Int) := Classical.byContradiction fun hd => hc (pull_of_good g (by omega) (by omega))
        rw [pullE_dims g hd]
        exact Pull_dims nr a c f g ra rn rc wa wn wc w h b1 b2 hd
      · rw [pullE_bad h0]
        exact Pull_bad regs a c l ra rn rc wa wn wc w h hl h0
    refine key.mono ?_
    rintro e w' ⟨rfl, hb⟩
    exact ⟨none, 0, rfl, Own.none _ _ _, hb⟩
end Go.Proofs.YtcamcnahkdiefaaGreat

/- Several texts of mine in one file: Ja, Jb, Jc, Jd, Je, Jf, Jg. -/
/- Chapter 14: jet.apply; copy of elements of any size. -/
namespace Go.Proofs.YtcamcnahkdiefaaGreat
set_option linter.unusedVariables false
set_option linter.unusedSimpArgs false
open Go.RowKit
theorem run_copy_rowN {P : Program} (w : World) (dT sT ty elem : TypeId) (g dLen dCap : Nat) (a : Addr) (sLen sCap : Nat) (cur : Array Value) (t : TypeId) (cs : List Value) (size : Nat)
    (hu : P.underlying dT = some (.slice elem)) (hs : (P.info? elem).map (·.size) = some size) (hg : w.heap[g]? = some (.cells cur t (0, 0))) (hn : cs.length = Nat.min sLen dLen * size)
    (hsrc : ∀ j v, cs[j]? = some v → w.cell? (a.add j) = some v) (hfit : cs.length ≤ cur.size) (h1 : ∀ v ∈ cs, v.oneCell' = true) :
    (Builtin.copy_ #[dT, sT] ty #[.slice (some ⟨g, 0, none⟩) dLen dCap, .slice (some a) sLen sCap]).run P w = .ok (goInt (Nat.min sLen dLen)) (w.setRow g (cs ++ cur.toList.drop cs.length).toArray) := by
  have hl := run_loadCells_list (P := P) w a cs hsrc
  have hst := run_storeCells_at P g 0 t cs 0 cur w hg (by simpa using hfit) h1
  cases hq : P.info? elem with
  | none => simp [hq] at hs
  | some i =>
    have hi : i.size = size := by simpa [hq] using hs
    simp only [Nat.add_zero, Nat.zero_add, List.take_zero, List.nil_append] at hst
    simp [Builtin.copy_, run_underlying hu, Builtin.lenOf, Builtin.firstCells, sizeOf, typeInfo, hq, hi, ← hn, hl, hst]
theorem run_copy_noneN {P : Program} (w : World) (dT sT ty elem : TypeId) (d a : Option Addr) (dLen dCap sCap : Nat) (hu : P.underlying dT = some (.slice elem)) (hs : ((P.info? elem).map (·.size)).isSome = true) :
    (Builtin.copy_ #[dT, sT] ty #[.slice d dLen dCap, .slice a 0 sCap]).run P w = .ok (goInt 0) w := by
  cases hq : P.info? elem with
  | none => simp [hq] at hs
  | some i =>
    have hl : ∀ (x : Addr), (loadCells x 0).run P w = .ok #[] w := fun x => by simpa using run_loadCells_list (P := P) w x [] (by simp)
    have h0 : Nat.min 0 dLen = 0 := Nat.zero_min _
    cases d <;> cases a <;> simp [Builtin.copy_, run_underlying hu, Builtin.lenOf, Builtin.firstCells, sizeOf, typeInfo, hq, h0, storeCells, hl]
theorem wpList_copyInN {P : Program} {w : World} {ops : Array Oper} {rest : List Oper} {o : Oper} {act : Act} {Q : Exit → Act → World → Prop} {α : Type} [Flat α] {T E : TypeId} (ty : Ty P T E α)
    {d s : Operand} (hgd : o.guard = none) (ho : o.op = .call { callee := .builtin .copy, args := #[d, s], argTypes := #[T, T] }) {B g dLen dCap sLen sCap : Nat} {sp : Option Addr} {l l2 : List α}
    (hd : act.eval d = .slice (some ⟨g, 0, none⟩) dLen dCap) (hs : act.eval s = .slice sp sLen sCap) (hdl : dLen = l.length) (hsl : sLen = l2.length) (hle : l2.length ≤ l.length) (own : Own w B E (some ⟨g, 0, none⟩) dCap l) (src : At w sp l2)
    (h : ∀ w', Own w' B E (some ⟨g, 0, none⟩) dCap (l2 ++ l.drop l2.length) → w.grownBy w' (some g) → wpList P ops Q rest (act.put o.dst (goInt l2.length)) w') : wpList P ops Q (o :: rest) act w := by
  subst hdl hsl
  obtain ⟨i, z, hi, hz, hsz, hby, hzs⟩ := ty.info
  have hsome : (P.info? E).map (·.size) = some (Flat.n α) := by rw [hi]; exact congrArg some hsz
  by_cases h0 : l2 = []
  · subst h0
    refine wpList_plain hgd fun K hK => ?_
    have hrun := run_copy_noneN (P := P) w T T o.type E (some ⟨g, 0, none⟩) sp l.length dCap sCap ty.und (by rw [hsome]; rfl)
    unfold Oper.wp
    simp only [List.length_nil] at hs
    simp [execOp, ho, resolve, invoke, builtin, hd, hs, hrun, Result.andThen]
    exact hK _ _ (h w (by simpa using own) (grown_drewN w 0 _))
  · obtain ⟨b, off, hsp, hlt⟩ := src.lt h0
    subst hsp
    rcases own.2 with ⟨hv, _⟩ | ⟨g', cap, cur, hv, hB, hg, hc1, hc2, hc3, hc4⟩
    · injection hv with h1 _ _; cases h1
    injection hv with e1 e2 e3
    subst e3
    injection e1 with e1
    injection e1 with e1 _ _
    subst e1
    have hcl : (l2.flatMap Flat.enc).length = l2.length * Flat.n α := enc_length l2
    have hnews : ∀ j u, (l2.flatMap Flat.enc)[j]? = some u → w.cell? ((⟨b, off, none⟩ : Addr).add j) = some u := by
      intro j u hu
      have hj : j < l2.length * Flat.n α := by rw [← enc_length]; exact (List.getElem?_eq_some_iff.1 hu).1
      have hp : 0 < Flat.n α := Flat.pos
      have hi' : j / Flat.n α < l2.length := (Nat.div_lt_iff_lt_mul hp).2 hj
      have hx := List.getElem?_eq_getElem hi'
      obtain ⟨b', off', e, h2⟩ := src _ _ hx
      injection e with e
      injection e with e1 e2 _
      subst e1 e2
      have hf : j % Flat.n α < (Flat.enc l2[j / Flat.n α]).length := by rw [Flat.len]; exact Nat.mod_lt _ hp
      have h3 := enc_flat l2 _ _ hx _ _ (List.getElem?_eq_getElem hf)
      have hdm : j / Flat.n α * Flat.n α + j % Flat.n α = j := by rw [Nat.mul_comm]; exact Nat.div_add_mod j _
      rw [hdm, hu] at h3
      have h4 := h2 _ _ (List.getElem?_eq_getElem hf)
      rw [addr_add, ← h3] at *
      rw [← h4]
      congr 2
      omega
    have hone := enc_one l2
    obtain ⟨cs, hcs⟩ : ∃ cs, l2.flatMap Flat.enc = cs := ⟨_, rfl⟩
    rw [hcs] at hcl hnews hone
    have hmin : Nat.min l2.length l.length = l2.length := Nat.min_eq_left hle
    have hmul : l2.length * Flat.n α ≤ l.length * Flat.n α := Nat.mul_le_mul_right _ hle
    have hmul2 : l.length * Flat.n α ≤ dCap * Flat.n α := Nat.mul_le_mul_right _ hc1
    refine wpList_plain hgd fun K hK => ?_
    have hrun := run_copy_rowN (P := P) w T T o.type E g l.length dCap ⟨b, off, none⟩ l2.length sCap cur E cs (Flat.n α) ty.und hsome hg (by rw [hcl, hmin]) hnews (by rw [hcl, hc3]; omega) hone
    rw [hmin] at hrun
    unfold Oper.wp
    simp [execOp, ho, resolve, invoke, builtin, hd, hs, hrun, Result.andThen]
    refine hK _ _ (h _ ⟨enc_length _, .inr ⟨g, dCap, _, ?_, hB, setRow_heap w g _ _ _ _ hg, ?_, hc2, ?_, ?_⟩⟩ ⟨rfl, rfl, rfl, by simp [World.setRow], fun k hk hne => setRow_other w g k _ (fun e => hne (by rw [e]))⟩)
    · rw [List.length_append, List.length_drop, show l2.length + (l.length - l2.length) = l.length by omega]
    · rw [List.length_append, List.length_drop]; omega
    · simp [hcl, hc3]; omega
    · rw [List.length_append, List.length_drop, show l2.length + (l.length - l2.length) = l.length by omega, List.toList_toArray, List.flatMap_append]
      have hd1 : ((l.take l2.length ++ l.drop l2.length).flatMap Flat.enc).drop (l2.length * Flat.n α) = (l.drop l2.length).flatMap Flat.enc := by
        have hk : ((l.take l2.length).flatMap Flat.enc).length = l2.length * Flat.n α := by rw [enc_length, List.length_take, Nat.min_eq_left hle]
        rw [List.flatMap_append, List.drop_append, hk, Nat.sub_self, List.drop_zero, List.drop_of_length_le (by rw [hk]; exact Nat.le_refl _), List.nil_append]
      rw [List.take_append_drop] at hd1
      rw [hcs, ← hd1, ← hc4, List.take_append, hcl, List.take_of_length_le (by rw [hcl]; omega), List.drop_take]
def mulAdd (x : OpD) (a b : DuD) : DuD := ⟨applyU x a.v b.v, (partU x a.v b.v).1 * a.d + (partU x a.v b.v).2 * b.d⟩
set_option maxRecDepth 100000 in
set_option maxHeartbeats 3200000 in
theorem JApply_calls (x : OpD) (a b : DuD) (w : World) :
    Calls Tryz.prog 116 #[.agg #[.int .i64 x.kind, .int .i64 x.d, .int .i64 x.a, .int .i64 x.b, .int .u64 (x.v.toNat : Int)], a.val, b.val] w fun e w' => e = .returned (mulAdd x a b).val ∧ Below w.heap.size w w' := by
  have HAP := hide (fun W => Apply_calls x a.v b.v W)
  have HPA := hide (fun W => Partials_calls x a.v b.v W)
  unfold mulAdd
  obtain ⟨p, hp⟩ : ∃ p, (partU x a.v b.v).1 = p := ⟨_, rfl⟩
  obtain ⟨q, hq⟩ : ∃ q, (partU x a.v b.v).2 = q := ⟨_, rfl⟩
  obtain ⟨sv, hsv⟩ : ∃ sv, applyU x a.v b.v = sv := ⟨_, rfl⟩
  rw [hp, hq] at HPA
  rw [hsv] at HAP
  rw [hp, hq, hsv]
  clear hp hq hsv
  obtain ⟨k, d, xa, xb, v⟩ := x
  obtain ⟨av, ad⟩ := a
  obtain ⟨bv, bd⟩ := b
  simp only [DuD.val] at *
  have e1 : IntKind.u64.wrap (IntKind.u64.wrap ((p.toNat : Int) * (ad.toNat : Int)) + IntKind.u64.wrap ((q.toNat : Int) * (bd.toNat : Int))) = ((p * ad + q * bd).toNat : Int) := by rw [u64_mul, u64_mul, u64_add]
  obtain ⟨sd, hsd⟩ : ∃ sd, p * ad + q * bd = sd := ⟨_, rfl⟩
  rw [hsd] at e1 ⊢
  have E1 := hide e1
  clear hsd
  have hO := (((Blk.new w 89 #[.int .i64 k, .int .i64 d, .int .i64 xa, .int .i64 xb, .int .u64 (v.toNat : Int)]).alloc (.cells #[.int .u64 (av.toNat : Int), .int .u64 (ad.toNat : Int)] 111)).alloc (.cells #[.int .u64 (bv.toNat : Int), .int .u64 (bd.toNat : Int)] 111)).alloc (.cells #[.int .u64 0, .int .u64 0] 111)
  have hA := ((Blk.new (w.alloc (.cells #[.int .i64 k, .int .i64 d, .int .i64 xa, .int .i64 xb, .int .u64 (v.toNat : Int)] 89)) 111 #[.int .u64 (av.toNat : Int), .int .u64 (ad.toNat : Int)]).alloc (.cells #[.int .u64 (bv.toNat : Int), .int .u64 (bd.toNat : Int)] 111)).alloc (.cells #[.int .u64 0, .int .u64 0] 111)
  have hB := (Blk.new ((w.alloc (.cells #[.int .i64 k, .int .i64 d, .int .i64 xa, .int .i64 xb, .int .u64 (v.toNat : Int)] 89)).alloc (.cells #[.int .u64 (av.toNat : Int), .int .u64 (ad.toNat : Int)] 111)) 111 #[.int .u64 (bv.toNat : Int), .int .u64 (bd.toNat : Int)]).alloc (.cells #[.int .u64 0, .int .u64 0] 111)
  have hC := Blk.new (((w.alloc (.cells #[.int .i64 k, .int .i64 d, .int .i64 xa, .int .i64 xb, .int .u64 (v.toNat : Int)] 89)).alloc (.cells #[.int .u64 (av.toNat : Int), .int .u64 (ad.toNat : Int)] 111)).alloc (.cells #[.int .u64 (bv.toNat : Int), .int .u64 (bd.toNat : Int)] 111)) 111 #[.int .u64 0, .int .u64 0]
  simp only [World.size_alloc] at hA hB hC
  have hb0 := (below2 w (.cells #[.int .i64 k, .int .i64 d, .int .i64 xa, .int .i64 xb, .int .u64 (v.toNat : Int)] 89) (.cells #[.int .u64 (av.toNat : Int), .int .u64 (ad.toNat : Int)] 111)).trans ((below2 _ (.cells #[.int .u64 (bv.toNat : Int), .int .u64 (bd.toNat : Int)] 111) (.cells #[.int .u64 0, .int .u64 0] 111)).mono (by simp <;> omega))
  obtain ⟨w0, hw0⟩ : ∃ w0, w0 = (((w.alloc (.cells #[.int .i64 k, .int .i64 d, .int .i64 xa, .int .i64 xb, .int .u64 (v.toNat : Int)] 89)).alloc (.cells #[.int .u64 (av.toNat : Int), .int .u64 (ad.toNat : Int)] 111)).alloc (.cells #[.int .u64 (bv.toNat : Int), .int .u64 (bd.toNat : Int)] 111)).alloc (.cells #[.int .u64 0, .int .u64 0] 111) := ⟨_, rfl⟩
  rw [← hw0] at hO hA hB hC hb0
  have hz0 : w0.heap.size = w.heap.size + 4 := by rw [hw0]; simp
  have HE : Hid (∀ P : World → Prop, P w0 → P ((((w.alloc (.cells #[.int .i64 k, .int .i64 d, .int .i64 xa, .int .i64 xb, .int .u64 (v.toNat : Int)] 89)).alloc (.cells #[.int .u64 (av.toNat : Int), .int .u64 (ad.toNat : Int)] 111)).alloc (.cells #[.int .u64 (bv.toNat : Int), .int .u64 (bd.toNat : Int)] 111)).alloc (.cells #[.int .u64 0, .int .u64 0] 111))) := hide fun P h => by rw [← hw0]; exact h
  have HW0 : Hid ((((w.alloc (.cells #[.int .i64 k, .int .i64 d, .int .i64 xa, .int .i64 xb, .int .u64 (v.toNat : Int)] 89)).alloc (.cells #[.int .u64 (av.toNat : Int), .int .u64 (ad.toNat : Int)] 111)).alloc (.cells #[.int .u64 (bv.toNat : Int), .int .u64 (bd.toNat : Int)] 111)).alloc (.cells #[.int .u64 0, .int .u64 0] 111) = w0) := hide hw0.symm
  clear hw0 HE
  obtain ⟨o0, o1, o2, o3, o4, o5, o6, o7, o8, o9⟩ := hO.c5
  obtain ⟨a0, a1, a2, a3⟩ := hA.c2
  obtain ⟨b0, b1, b2, b3⟩ := hB.c2
  obtain ⟨c0, c1, c2, c3⟩ := hC.c2
  go_enter Tryz.func116, Tryz.ntmps116
  go_wp2_with (go_at_call 153; go_must (rw [HW0.out]; (with_reducible refine (HPA.out w0).mono ?_); rintro e w1 ⟨rfl, hB1⟩; obtain ⟨p0, p1, p2, p3, p4, p5, p6, p7, p8, p9⟩ := (hO.belowN hB1).c5; obtain ⟨r0, r1, r2, r3⟩ := (hA.belowN hB1).c2; obtain ⟨r4, r5, r6, r7⟩ := (hB.belowN hB1).c2; obtain ⟨r8, r9, r10, r11⟩ := (hC.belowN hB1).c2))
  generalize hg : w.heap.size + 1 + 1 + 1 = g at *
  have hne1 : g ≠ w.heap.size := by omega
  have hne2 : g ≠ w.heap.size + 1 := by omega
  have hne3 : g ≠ w.heap.size + 1 + 1 := by omega
  have hgw : w.heap.size ≤ g := by omega
  clear hg
  have hd0 : Below w1.heap.size w1 w1.drew := Below.drew (Below.refl _ _)
  have hz1 := hB1.size
  go_region_held3 (fun w' => (w'.cell? ⟨w.heap.size, 0, none⟩ = some (.int .i64 k) ∧ w'.cell? ⟨w.heap.size, 1, none⟩ = some (.int .i64 d) ∧ w'.cell? ⟨w.heap.size, 2, none⟩ = some (.int .i64 xa) ∧ w'.cell? ⟨w.heap.size, 3, none⟩ = some (.int .i64 xb) ∧ w'.cell? ⟨w.heap.size, 4, none⟩ = some (.int .u64 (v.toNat : Int))) ∧ w'.cell? ⟨w.heap.size + 1, 0, none⟩ = some (.int .u64 (av.toNat : Int)) ∧ w'.cell? ⟨w.heap.size + 1, 1, none⟩ = some (.int .u64 (ad.toNat : Int)) ∧ w'.cell? ⟨w.heap.size + 1 + 1, 0, none⟩ = some (.int .u64 (bv.toNat : Int)) ∧ w'.cell? ⟨w.heap.size + 1 + 1, 1, none⟩ = some (.int .u64 (bd.toNat : Int))) (go_keep)
    (first
      | (go_at_call 114; go_must ((with_reducible refine (HAP.out _).mono ?_); rintro e w2 ⟨rfl, hb2⟩; have hB2 := hB1.trans ((hd0.trans (hb2.mono hd0.size)).mono hz1); obtain ⟨s0, s1, s2, s3, s4, s5, s6, s7, s8, s9⟩ := (hO.belowN hB2).c5; obtain ⟨t0, t1, t2, t3⟩ := (hA.belowN hB2).c2; obtain ⟨t4, t5, t6, t7⟩ := (hB.belowN hB2).c2; obtain ⟨t8, t9, t10, t11⟩ := (hC.belowN hB2).c2)))
  have hF := ((hC.belowN hB2).set_ 0 (.int .u64 (sv.toNat : Int))).set_ 1 (.int .u64 (sd.toNat : Int))
  have hB9 := hb0.trans (hB2.mono hb0.size)
  try go_wp2
  try simp only [Exit.then, Exit.inBlock]
  refine bodyPost_ret (results_row_D rfl _ _ g _ #[.int .u64 (sv.toNat : Int), .int .u64 (sd.toNat : Int)] (0, 0) _ rfl hF Tryz.underlying111 rfl (by kernel_rfl)) rfl ⟨rfl, ?_⟩
  exact (hB9.setCell (p := ⟨g, 0, none⟩) (by first | exact hgw | (simp <;> omega)) _).setCell (p := ⟨g, 1, none⟩) (by first | exact hgw | (simp <;> omega)) _
end Go.Proofs.YtcamcnahkdiefaaGreat

/- Chapter 14: the machine on duals (jet.exec). -/
namespace Go.Proofs.YtcamcnahkdiefaaGreat
set_option linter.unusedVariables false
set_option linter.unusedSimpArgs false
open Go.RowKit
def JxJ (code : List (OpD × Int)) (steps : List Tk) (gr cr Br : Nat) (r0 : List DuD) (W : World) (N : Nat) (lv pv : Value) (wr : World) : Prop :=
  ∃ (pre rest : List Tk) (p k cl : Nat) (al : Option Addr) (st : List UInt64), lv = .slice al k cl ∧ pv = .int .i64 (p : Int) ∧ rest.length = N ∧ p ≤ code.length ∧ k = st.length ∧ k ≤ 8 ∧ Chn code (p, st) rest (code.length, []) ∧ steps = pre ++ rest ∧
    Own wr W.heap.size 50 al cl st ∧ Own wr Br 111 (some ⟨gr, 0, none⟩) cr (runD (wrs (pre.map (·.op))) r0) ∧ Turned [gr] W wr
theorem JxJ.measure {J : Nat → Value → Value → World → Prop} {N : Nat} {a a' b b' : Value} {w w' : World} (hN : N + 1 = leastOf (fun N => J N a b w)) (h : J N a' b' w') : leastOf (fun N => J N a' b' w') < leastOf (fun N => J N a b w) := by
  have := (leastOf_spec (p := fun N => J N a' b' w') ⟨N, h⟩).2 N h
  omega
set_option maxRecDepth 100000 in
set_option maxHeartbeats 6400000 in
theorem jexec_calls (regs : Int) (f : Fo) (g : Good regs f) (ac : Option Addr) (cc gr cr Br : Nat) (r0 : List DuD) (w : World)
    (hc : At w ac (f.bare.code 0)) (hcb : f.bare.code 0 ≠ [] → ∀ q, ac.map (·.block) = some q → q ≠ gr)
    (hr : Own w Br 111 (some ⟨gr, 0, none⟩) cr r0) (hrl : (r0.length : Int) = regs) :
    Calls Tryz.prog 115 #[.slice ac (f.bare.code 0).length cc, .slice (some ⟨gr, 0, none⟩) r0.length cr, .func (.func 116) #[] #[]] w fun e w' => e = .returned (.tuple #[]) ∧ Own w' Br 111 (some ⟨gr, 0, none⟩) cr (runD f.unroll r0) ∧ Turned [gr] w w' := by
  have hlen := g.code_length
  have HTK := hide g.tk
  have HPOS := hide g.tk_pos
  have hchn := hide g.chn
  have HIN := hide g.tk_in
  have HOPS := hide g.steps_ops
  obtain ⟨r1, r2⟩ : 1 ≤ regs ∧ regs ≤ 64 := ⟨g.r1, g.r2⟩
  generalize f.bare.code 0 = code at *
  generalize f.steps = steps at *
  generalize f.unroll = U at *
  have HCB := hide hcb
  have HRL := hide hrl
  have hgr := (hr.blk gr rfl)
  obtain ⟨nr, hnr⟩ : ∃ nr, nr = r0.length := ⟨_, rfl⟩
  have hnr64 : nr ≤ 64 := by omega
  have HNR := hide hnr
  rw [← hnr]
  clear hcb hrl g hnr
  go_enter Tryz.func115, Tryz.ntmps115
  go_wp2
  go_loopw [6, 7] (fun lv pv wr => ∃ N, JxJ code steps gr cr Br r0 w N lv pv wr) (fun lv pv wr => leastOf fun N => JxJ code steps gr cr Br r0 w N lv pv wr)
  case atStart => exact ⟨steps.length, [], steps, 0, 0, 0, none, [], rfl, rfl, rfl, by omega, rfl, by omega, hchn.out, rfl, Own.none _ _ _, hr, Turned.refl _ _⟩
  case round =>
    obtain ⟨N0, hN0⟩ : ∃ N0, N0 = leastOf (fun N => JxJ code steps gr cr Br r0 w N u6 u7 wr) := ⟨_, rfl⟩
    have hs := (leastOf_spec hrel).1
    rw [← hN0] at hs
    obtain ⟨pre, rest, p, k, cl, al, st, rfl, rfl, hrN, hp, hk, hk8, hch, hst, hL, hown, hT⟩ := hs
    have HN0 := hide hN0
    have HKK := hide hk
    have HST := hide hst
    have HCH := hide hch
    have hzT := hT.size
    have hXr : At wr ac code := hc.turned hT (fun hne q hq e => by
      have h1 := HCB.out hne q e
      simp only [List.mem_singleton] at hq
      exact h1 hq)
    have HALB := hide hL.blk
    clear hN0 hk hst hch hrel
    cases rest with
    | nil =>
      have e := HCH.out
      change (p, st) = (code.length, []) at e
      injection e with e1 e2
      have hpa : code.length ≤ p := by omega
      have hU : wrs (pre.map (·.op)) = U := by rw [← HOPS.out, HST.out]; simp
      have HUU := hide hU
      clear e1 e2 hU
      go_wp2
      go_end0
      rw [← HUU.out]
      exact ⟨rfl, hown, hT⟩
    | cons x rest =>
      obtain ⟨e1, e2, e3⟩ := HCH.out
      injection e1 with e1a e1b
      subst e1a e1b
      have hplt : x.at' < code.length := (List.getElem?_eq_some_iff.1 e2).1
      have hmem : x ∈ steps := by rw [HST.out]; simp
      obtain ⟨t1, t2, t3, t4, t5, t6, t7, t8, t9⟩ := HTK.out x hmem
      obtain ⟨b1, off1, hac, x0, x1, x2, x3, x4, x5⟩ := hXr.getIns (Below.refl _ _) e2
      subst hac
      simp only at x0 x1 x2 x3 x4 x5
      have hmap : (pre ++ [x]).map (·.op) = pre.map (·.op) ++ [x.op] := by simp
      have hst2 : steps = (pre ++ [x]) ++ rest := by rw [HST.out]; simp
      have hsn := wrs_snoc' (pre.map (·.op)) x.op
      rw [← hmap] at hsn
      have HSN := hide hsn
      have HST2 := hide hst2
      have HE3 := hide e3
      have HPX := hide (HPOS.out x hmem)
      have HINX := hide (HIN.out x hmem)
      have HME : Hid (rest.length + 1 = leastOf (fun N => JxJ code steps gr cr Br r0 w N (.slice al k cl) (.int .i64 (x.at' : Int)) wr)) := by have := HN0.out; show _ = _; rw [← this, ← hrN]; rfl
      have hb1 : b1 < wr.heap.size := (World.block_lt_of_cell? _ _ x0)
      have HE2 := hide e2
      clear hmap hst2 hsn e2 e3 hmem t5 hrN HN0
      rcases kind_cases x.op with ⟨k7, b7, b0⟩ | ⟨k0, b7, b0⟩ | ⟨k7, k0, b7, b0⟩
      · have hnx : x.next = (x.at' + 1, x.st ++ [x.op.v]) := by unfold Tk.next; rw [if_pos k7]
        have hch2 := HE3.out
        rw [hnx] at hch2
        have HCH2 := hide hch2
        have hk7 := t3 k7
        rw [← HKK.out] at hk7
        have hws : wrs ((pre ++ [x]).map (·.op)) = wrs (pre.map (·.op)) := by rw [HSN.out, if_neg (fun h => h.1 k7)]
        rw [← hws] at hown
        have hL2 := hL.alloc (.cells #[.int .i64 x.op.kind, .int .i64 x.op.d, .int .i64 x.op.a, .int .i64 x.op.b, .int .u64 (x.op.v.toNat : Int)] 89)
        have ho2 := hown.alloc (.cells #[.int .i64 x.op.kind, .int .i64 x.op.d, .int .i64 x.op.a, .int .i64 x.op.b, .int .u64 (x.op.v.toNat : Int)] 89)
        have hT2 : Turned [gr] w (wr.alloc (.cells #[.int .i64 x.op.kind, .int .i64 x.op.d, .int .i64 x.op.a, .int .i64 x.op.b, .int .u64 (x.op.v.toNat : Int)] 89)) := hT.trans (Turned.ofBelow (F := []) (below_new12 wr _)) (fun q hq => by cases hq)
        clear hnx hch2 k7 t3 t4 hws hL hown
        go_wp2_with (at_builtin; refine wpList_push tyU hL2 x.op.v rfl rfl rfl rfl rfl (by simp) HKK.out (by simp; omega) (by omega) ?_; intro a8 c8 w8 hown8 hg8 _)
        have hnew : JxJ code steps gr cr Br r0 w rest.length (.slice a8 (k + 1) c8) (.int .i64 ((x.at' + 1 : Nat) : Int)) w8 :=
          ⟨pre ++ [x], rest, x.at' + 1, k + 1, c8, a8, x.st ++ [x.op.v], rfl, rfl, rfl, by omega, by rw [List.length_append, ← HKK.out]; rfl, by omega, HCH2.out, HST2.out, hown8, ho2.grown hg8 (.inr (fun e => by have := (HALB.out gr e.symm).1; omega)), hT2.trans (Turned.ofGrown (F := al.toList.map (·.block)) hg8 (fun q hq => .inl (by cases al <;> simp_all))) (fun q hq => .inr (by cases al with | none => simp at hq | some z => simp at hq; subst hq; exact (HALB.out _ rfl).1))⟩
        go_roundw
        case rel => exact ⟨_, hnew⟩
        case measure => exact JxJ.measure (J := JxJ code steps gr cr Br r0 w) HME.out hnew
      · have hst0 := t4 k0
        obtain ⟨st', last, hst'⟩ : ∃ st' last, x.st = st' ++ [last] := ⟨x.st.dropLast, x.st.getLast hst0, (List.dropLast_concat_getLast hst0).symm⟩
        have hpos := HPX.out k0
        have hk' : k = st'.length + 1 := by rw [HKK.out, hst']; simp
        obtain ⟨k', rfl⟩ : ∃ k', k = k' + 1 := ⟨k - 1, by omega⟩
        have hk2 : k' = st'.length := by omega
        have hgl : x.st.getLast?.getD 0 = last := by rw [hst']; simp
        rw [hgl] at hpos
        have hub := last.toNat_lt
        have hlast : x.st[k']? = some last := by rw [hst', hk2]; simp
        obtain ⟨ga, hal, hga1, hga2⟩ := hL.some_ hst0
        subst hal
        have c0 : wr.cell? ⟨ga, k', none⟩ = some (.int .u64 (last.toNat : Int)) := by simpa [Flat.n] using hL.cellAt hlast (f := 0) rfl
        have c1 := hL.frozen k'
        have hsub : ((last.toNat : Int) - 1) = ((last - 1).toNat : Int) := by rw [UInt64.toNat_sub]; simp; omega
        have hw1 := (below_new12 wr (.cells #[.int .i64 x.op.kind, .int .i64 x.op.d, .int .i64 x.op.a, .int .i64 x.op.b, .int .u64 (x.op.v.toNat : Int)] 89))
        obtain ⟨y0, y1⟩ := bcell hw1
        have c2 := (y0 ga k' hga2).trans c0
        have c3 := (y1 ga k' hga2).trans c1
        have hL1 := hL.set1 k' (last - 1) _ rfl
        have hset : x.st.set k' (last - 1) = st' ++ [last - 1] := by rw [hst', hk2, List.set_append_right _ _ (Nat.le_refl _), Nat.sub_self]; rfl
        rw [hset, ← hsub] at hL1
        have hL2 := hL1.alloc (.cells #[.int .i64 x.op.kind, .int .i64 x.op.d, .int .i64 x.op.a, .int .i64 x.op.b, .int .u64 (x.op.v.toNat : Int)] 89)
        have hgg : ga ≠ gr := by omega
        obtain ⟨hcp0, hcp1⟩ := hL.cap
        have hcp2 : k' ≤ cl := by have := HKK.out; omega
        have hcp3 : (k' : Int) ≤ (cl : Int) := by omega
        unfold maxLen at hcp1
        have hTs : Turned [ga] wr ((wr.setCell ⟨ga, k', none⟩ (.int .u64 ((last.toNat : Int) - 1))).alloc (.cells #[.int .i64 x.op.kind, .int .i64 x.op.d, .int .i64 x.op.a, .int .i64 x.op.b, .int .u64 (x.op.v.toNat : Int)] 89)) := (Turned.ofGrown (F := [ga]) (grown_setCell _ _ _ _) (fun q hq => .inl (by injection hq with hq; simp [hq]))).trans (Turned.ofBelow (F := []) (below_new12 _ _)) (fun q hq => by cases hq)
        have hT2 := hT.trans hTs (fun q hq => .inr (by simp at hq; omega))
        have hws : wrs ((pre ++ [x]).map (·.op)) = wrs (pre.map (·.op)) := by rw [HSN.out, if_neg (fun h => h.2 k0)]
        rw [← hws] at hown
        have ho2 := hown.turned hTs (fun q hq => by simp at hq; simp; omega)
        have c4 : ((wr.setCell ⟨ga, k', none⟩ (.int .u64 ((last.toNat : Int) - 1))).alloc (.cells #[.int .i64 x.op.kind, .int .i64 x.op.d, .int .i64 x.op.a, .int .i64 x.op.b, .int .u64 (x.op.v.toNat : Int)] 89)).cell? ⟨ga, k', none⟩ = some (.int .u64 ((last.toNat : Int) - 1)) := by
          have h9 := hL2.cellAt (i := k') (x := last - 1) (by rw [hk2]; simp) (f := 0) rfl
          rw [← hsub] at h9
          simpa [Flat.n] using h9
        have hb1w : b1 < w.heap.size := by
          obtain ⟨bb, oo, e, h9⟩ := hc.lt (fun e => by rw [e] at hplt; simp at hplt)
          injection e with e; injection e with e1 _ _; omega
        obtain ⟨b1', off1', hac', _, _, _, _, _, x5'⟩ := (hXr.turned hTs (fun _ q hq => by simp at hq; simp; omega)).getIns (Below.refl _ _) HE2.out
        obtain ⟨rfl, rfl⟩ : b1 = b1' ∧ off1 = off1' := by injection hac' with hac'; injection hac' with h1 h2; exact ⟨h1, h2⟩
        simp only at x5'
        clear hac'
        have HK2 := hide hk2
        have hcast : ((k' : Int) + 1 - 1) = (k' : Int) := by omega
        clear y0 y1 hL hown hset hL1 hTs
        by_cases hq : 1 < last.toNat
        · have hnx : x.next = (x.to.toNat, st' ++ [last - 1]) := by unfold Tk.next; rw [if_neg (by omega), if_pos k0, hgl, if_pos hq, hst']; simp
          have hch2 := HE3.out
          rw [hnx] at hch2
          have HCH2 := hide hch2
          have hdq : decide (0 < (last.toNat : Int) - 1) = true := by simp; omega
          have hnew : JxJ code steps gr cr Br r0 w rest.length (.slice (some ⟨ga, 0, none⟩) (k' + 1) cl) (.int .i64 x.to) ((wr.setCell ⟨ga, k', none⟩ (.int .u64 ((last.toNat : Int) - 1))).alloc (.cells #[.int .i64 x.op.kind, .int .i64 x.op.d, .int .i64 x.op.a, .int .i64 x.op.b, .int .u64 (x.op.v.toNat : Int)] 89)) :=
            ⟨pre ++ [x], rest, x.to.toNat, k' + 1, cl, _, st' ++ [last - 1], rfl, congrArg (Value.int .i64) (by omega), rfl, by omega, by rw [List.length_append, ← hk2]; rfl, by omega, hch2, HST2.out, hL2, ho2, hT2⟩
          have HNEW := hide hnew
          clear hnx hch2 k0 t3 t4 hlast hgl hsub hst0 hst' hk2 hk' HPX hws hnew hL2 ho2 hT2
          go_wp2
          go_roundw
          case rel => exact ⟨_, by have h := HNEW.out; simpa using h⟩
          case measure => exact JxJ.measure (J := JxJ code steps gr cr Br r0 w) HME.out (by have h := HNEW.out; simpa using h)
        · have hnx : x.next = (x.at' + 1, st') := by unfold Tk.next; rw [if_neg (by omega), if_pos k0, hgl, if_neg hq, hst']; simp
          have hch2 := HE3.out
          rw [hnx] at hch2
          have hdq : decide (0 < (last.toNat : Int) - 1) = false := by simp; omega
          have hL3 := hL2.pop (by simp)
          rw [List.dropLast_concat] at hL3
          have hnew : JxJ code steps gr cr Br r0 w rest.length (.slice (some ⟨ga, 0, none⟩) k' cl) (.int .i64 ((x.at' + 1 : Nat) : Int)) ((wr.setCell ⟨ga, k', none⟩ (.int .u64 ((last.toNat : Int) - 1))).alloc (.cells #[.int .i64 x.op.kind, .int .i64 x.op.d, .int .i64 x.op.a, .int .i64 x.op.b, .int .u64 (x.op.v.toNat : Int)] 89)) :=
            ⟨pre ++ [x], rest, x.at' + 1, k', cl, _, st', rfl, rfl, rfl, by omega, hk2, by omega, hch2, HST2.out, hL3, ho2, hT2⟩
          have HNEW := hide hnew
          clear hnx hch2 k0 t3 t4 hlast hgl hsub hst0 hst' hk2 hk' HPX hws hnew hL2 ho2 hT2 hL3
          go_wp2
          go_roundw
          case rel => exact ⟨_, HNEW.out⟩
          case measure => exact JxJ.measure (J := JxJ code steps gr cr Br r0 w) HME.out HNEW.out
      · have hkk1 : 1 ≤ x.op.kind := by omega
        have hkk2 : x.op.kind ≤ 6 := by omega
        obtain ⟨⟨d1, d2⟩, ⟨a1, a2⟩, ⟨i1, i2⟩⟩ := HINX.out hkk1 hkk2
        have hlr : (runD (wrs (pre.map (·.op))) r0).length = nr := by rw [runD_length, HNR.out]
        have HRL2 := HRL.out
        rw [← HNR.out] at HRL2
        have a3 : x.op.a < (nr : Int) := by omega
        have i3 : x.op.b < (nr : Int) := by omega
        have d3 : x.op.d < (nr : Int) := by omega
        generalize hregs : runD (wrs (pre.map (·.op))) r0 = R at *
        obtain ⟨pd, hpd⟩ : ∃ y, R[x.op.d.toNat]? = some y := ⟨R[x.op.d.toNat]'(by omega), List.getElem?_eq_getElem _⟩
        obtain ⟨pa, hpa⟩ : ∃ y, R[x.op.a.toNat]? = some y := ⟨R[x.op.a.toNat]'(by omega), List.getElem?_eq_getElem _⟩
        obtain ⟨pb, hpb⟩ : ∃ y, R[x.op.b.toNat]? = some y := ⟨R[x.op.b.toNat]'(by omega), List.getElem?_eq_getElem _⟩
        have HAP := hide (fun W => JApply_calls x.op pa pb W)
        obtain ⟨S, hS⟩ : ∃ S, mulAdd x.op pa pb = S := ⟨_, rfl⟩
        rw [hS] at HAP
        have hstep : R.set x.op.d.toNat S = runD (wrs ((pre ++ [x]).map (·.op))) r0 := by
          rw [HSN.out, if_pos ⟨k7, k0⟩, runD_append, hregs]
          show _ = stepD R x.op
          unfold stepD getD14
          rw [hpa, hpb, ← hS]
          simp only [Option.getD_some]
          rw [doesD_eq x.op _ _ hkk1 hkk2]
          rfl
        have HSTEP := hide hstep
        have hw1 := below_new12 wr (.cells #[.int .i64 x.op.kind, .int .i64 x.op.d, .int .i64 x.op.a, .int .i64 x.op.b, .int .u64 (x.op.v.toNat : Int)] 89)
        have hown2 := hown.alloc (.cells #[.int .i64 x.op.kind, .int .i64 x.op.d, .int .i64 x.op.a, .int .i64 x.op.b, .int .u64 (x.op.v.toNat : Int)] 89)
        have hL2 := hL.alloc (.cells #[.int .i64 x.op.kind, .int .i64 x.op.d, .int .i64 x.op.a, .int .i64 x.op.b, .int .u64 (x.op.v.toNat : Int)] 89)
        have hOb := Blk.new wr 89 #[.int .i64 x.op.kind, .int .i64 x.op.d, .int .i64 x.op.a, .int .i64 x.op.b, .int .u64 (x.op.v.toNat : Int)]
        have hT2 : Turned [gr] w (wr.alloc (.cells #[.int .i64 x.op.kind, .int .i64 x.op.d, .int .i64 x.op.a, .int .i64 x.op.b, .int .u64 (x.op.v.toNat : Int)] 89)) := hT.trans (Turned.ofBelow (F := []) hw1) (fun q hq => by cases hq)
        have hz2 : (wr.alloc (.cells #[.int .i64 x.op.kind, .int .i64 x.op.d, .int .i64 x.op.a, .int .i64 x.op.b, .int .u64 (x.op.v.toNat : Int)] 89)).heap.size = wr.heap.size + 1 := by simp
        simp only [DuD.val] at HAP
        clear hS hlr hstep hkk1 hkk2 hown hL HPX hregs t3 t4
        go_wp2_with fail
        generalize hW2 : wr.alloc (.cells #[.int .i64 x.op.kind, .int .i64 x.op.d, .int .i64 x.op.a, .int .i64 x.op.b, .int .u64 (x.op.v.toNat : Int)] 89) = W2 at *
        obtain ⟨y0, y1, y2, y3, y4, z0, z1, z2, z3, z4⟩ := hOb.c5
        have ra0 := hown2.cellAt hpa (f := 0) rfl
        have ra1 := hown2.cellAt hpa (f := 1) rfl
        have rb0 := hown2.cellAt hpb (f := 0) rfl
        have rb1 := hown2.cellAt hpb (f := 1) rfl
        have rd0 := hown2.cellAt hpd (f := 0) rfl
        have rd1 := hown2.cellAt hpd (f := 1) rfl
        have rf0 := hown2.frozen (x.op.d.toNat * 2)
        have rf1 := hown2.frozen (x.op.d.toNat * 2 + 1)
        simp only [Flat.n, Nat.add_zero] at ra0 ra1 rb0 rb1 rd0 rd1
        have hgl2 : gr < W2.heap.size := by omega
        have hol2 : wr.heap.size < W2.heap.size := by omega
        have hgo : gr ≠ wr.heap.size := by omega
        clear hW2
        have HPD := hide hpd
        obtain ⟨S', hS'⟩ : ∃ S' : World → Prop, S' = fun w' => (w'.cell? ⟨wr.heap.size, 0, none⟩ = some (.int .i64 x.op.kind) ∧ w'.cell? ⟨wr.heap.size, 1, none⟩ = some (.int .i64 x.op.d) ∧ w'.cell? ⟨wr.heap.size, 2, none⟩ = some (.int .i64 x.op.a) ∧ w'.cell? ⟨wr.heap.size, 3, none⟩ = some (.int .i64 x.op.b) ∧ w'.cell? ⟨wr.heap.size, 4, none⟩ = some (.int .u64 (x.op.v.toNat : Int))) ∧ w'.cell? ⟨gr, x.op.a.toNat * 2, none⟩ = some (.int .u64 (pa.v.toNat : Int)) ∧ w'.cell? ⟨gr, x.op.a.toNat * 2 + 1, none⟩ = some (.int .u64 (pa.d.toNat : Int)) ∧ w'.cell? ⟨gr, x.op.b.toNat * 2, none⟩ = some (.int .u64 (pb.v.toNat : Int)) ∧ w'.cell? ⟨gr, x.op.b.toNat * 2 + 1, none⟩ = some (.int .u64 (pb.d.toNat : Int)) := ⟨_, rfl⟩
        have HSE : Hid (∀ w', S' w' → (w'.cell? ⟨wr.heap.size, 0, none⟩ = some (.int .i64 x.op.kind) ∧ w'.cell? ⟨wr.heap.size, 1, none⟩ = some (.int .i64 x.op.d) ∧ w'.cell? ⟨wr.heap.size, 2, none⟩ = some (.int .i64 x.op.a) ∧ w'.cell? ⟨wr.heap.size, 3, none⟩ = some (.int .i64 x.op.b) ∧ w'.cell? ⟨wr.heap.size, 4, none⟩ = some (.int .u64 (x.op.v.toNat : Int))) ∧ w'.cell? ⟨gr, x.op.a.toNat * 2, none⟩ = some (.int .u64 (pa.v.toNat : Int)) ∧ w'.cell? ⟨gr, x.op.a.toNat * 2 + 1, none⟩ = some (.int .u64 (pa.d.toNat : Int)) ∧ w'.cell? ⟨gr, x.op.b.toNat * 2, none⟩ = some (.int .u64 (pb.v.toNat : Int)) ∧ w'.cell? ⟨gr, x.op.b.toNat * 2 + 1, none⟩ = some (.int .u64 (pb.d.toNat : Int))) := hide fun w' h => by rw [hS'] at h; exact h
        have HSI : Hid (S' W2.drew) := by show S' W2.drew; rw [hS']; exact ⟨⟨y0, y1, y2, y3, y4⟩, ra0, ra1, rb0, rb1⟩
        have HSI4 : Hid (∀ w4, Below W2.drew.heap.size W2.drew w4 → S' w4) := by
          show ∀ w4, _ → _
          intro w4 hb4
          obtain ⟨hc4, hf4⟩ := bcell hb4
          rw [hS']
          exact ⟨⟨(hc4 _ 0 hol2).trans y0, (hc4 _ 1 hol2).trans y1, (hc4 _ 2 hol2).trans y2, (hc4 _ 3 hol2).trans y3, (hc4 _ 4 hol2).trans y4⟩, (hc4 _ _ hgl2).trans ra0, (hc4 _ _ hgl2).trans ra1, (hc4 _ _ hgl2).trans rb0, (hc4 _ _ hgl2).trans rb1⟩
        clear hS'
        refine wp_region_call 15 S' (by kernel_rfl) (by kernel_rfl) HSI.out ?_
        simp only [List.take_succ_cons, List.take_zero, List.drop_succ_cons, List.drop_zero]
        iterate 15
          apply headK_step (by rfl)
          · intro w' hw'
            obtain ⟨⟨s0, s1, s2, s3, s4⟩, s5, s6, s7, s8⟩ := HSE.out w' hw'
            go_simp
            rfl
          intro a' ha'
          simp only [Act.put, List.setIfInBounds_toArray, List.set_cons_succ, List.set_cons_zero] at ha'
          subst ha'
        refine headK_nil ?_
        intro o ho K0 hK0
        simp only [List.getElem?_cons_succ, List.getElem?_cons_zero, Option.some.injEq] at ho
        subst ho
        have HK0 := hide hK0
        clear hK0
        go_simp
        go_at_call 116
        refine (HAP.out _).mono ?_
        rintro e w4 ⟨rfl, hb4⟩
        refine HK0.out _ _ (HSI4.out w4 hb4) ?_
        obtain ⟨hc4, hf4⟩ := bcell hb4
        have q0 := (hc4 _ 0 hol2).trans y0
        have q1 := (hc4 _ 1 hol2).trans y1
        have q2 := (hc4 _ 2 hol2).trans y2
        have q3 := (hc4 _ 3 hol2).trans y3
        have q4 := (hc4 _ 4 hol2).trans y4
        have qd0 := (hc4 _ _ hgl2).trans rd0
        have qd1 := (hc4 _ _ hgl2).trans rd1
        have qf0 := (hf4 _ (x.op.d.toNat * 2) hgl2).trans rf0
        have qf1 := (hf4 _ (x.op.d.toNat * 2 + 1) hgl2).trans rf1
        clear hc4 hf4 HK0
        go_wp2
        refine NoPanic.normal ?_
        have hb4' : Below W2.heap.size W2 w4 := ⟨hb4.os, hb4.tape, hb4.output, hb4.size, hb4.block⟩
        have hown5 := (hown2.belowN hb4').setD HPD.out S
        rw [HSTEP.out] at hown5
        have hTs : Turned [gr] W2 ((w4.setCell ⟨gr, x.op.d.toNat * 2, none⟩ (.int .u64 (S.v.toNat : Int))).setCell ⟨gr, x.op.d.toNat * 2 + 1, none⟩ (.int .u64 (S.d.toNat : Int))) := ((Turned.ofBelow (F := [gr]) hb4').trans (Turned.ofGrown (F := [gr]) (grown_setCell _ _ _ _) (fun q hq => .inl (by injection hq with hq; simp [hq]))) (fun q hq => .inl hq)).trans (Turned.ofGrown (F := [gr]) (grown_setCell _ _ _ _) (fun q hq => .inl (by injection hq with hq; simp [hq]))) (fun q hq => .inl hq)
        have hL5 := hL2.turned hTs (fun q hq => by have := (HALB.out q hq).1; simp; omega)
        have hT5 := hT2.trans hTs (fun q hq => .inl hq)
        have hnx : x.next = (x.at' + 1, x.st) := by unfold Tk.next; rw [if_neg k7, if_neg k0]
        have hch2 := HE3.out
        rw [hnx] at hch2
        have hnew : JxJ code steps gr cr Br r0 w rest.length (.slice al k cl) (.int .i64 ((x.at' + 1 : Nat) : Int)) ((w4.setCell ⟨gr, x.op.d.toNat * 2, none⟩ (.int .u64 (S.v.toNat : Int))).setCell ⟨gr, x.op.d.toNat * 2 + 1, none⟩ (.int .u64 (S.d.toNat : Int))) :=
          ⟨pre ++ [x], rest, x.at' + 1, k, cl, al, x.st, rfl, rfl, rfl, by omega, HKK.out, by omega, hch2, HST2.out, hL5, hown5, hT5⟩
        have HNEW := hide hnew
        clear hnx hch2 hown5 k7 k0 HSI4 HSI HSE hOb hown2 hL2 hnew hL5 hT5
        go_wp2
        go_roundw
        case rel => exact ⟨_, HNEW.out⟩
        case measure => exact JxJ.measure (J := JxJ code steps gr cr Br r0 w) HME.out HNEW.out
end Go.Proofs.YtcamcnahkdiefaaGreat

/- Chapter 14: jet.Run, jet.begin, jet.Along. -/
namespace Go.Proofs.YtcamcnahkdiefaaGreat
set_option linter.unusedVariables false
set_option linter.unusedSimpArgs false
open Go.RowKit
set_option maxHeartbeats 800000 in
theorem JRun_bad (regs : Int) (a : Option Addr) (c : Nat) (l : List OpD) (ra : Option Addr) (rn rc : Nat) (w : World) (h : At w a l) (hl : l.length ≤ 1000000) (hc : checkS regs l ≠ 0) :
    Calls Tryz.prog 69 #[.agg #[.int .i64 regs, .slice a l.length c], .slice ra rn rc] w fun e w' => e = .returned (.tuple #[.slice none 0 0, .int .i64 (checkS regs l)]) ∧ Below w.heap.size w w' := by
  have h1 := h.belowN (below_new12 w (.cells #[.int .i64 regs, .slice a l.length c] 24))
  have hb0 := below_new12 w (.cells #[.int .i64 regs, .slice a l.length c] 24)
  have HP := hide (Code_calls regs a c l _ h1 hl)
  obtain ⟨E, hE⟩ : ∃ E, E = checkS regs l := ⟨_, rfl⟩
  unfold CodePost at HP
  rw [← hE] at HP hc ⊢
  have e1 : (E == 0) = false := by simpa using hc
  have e2 : (E != 0) = true := by simpa using hc
  clear hE hc
  go_enter Tryz.func69, Tryz.ntmps69
  go_wp2_with (go_at_call 47; ((with_reducible refine (HP.out).mono ?_); rintro e w1 ⟨a1, c1, rfl, hown1, hb1⟩))
  go_ret2
  exact ⟨rfl, hb0.trans (hb1.mono hb0.size)⟩
set_option maxHeartbeats 800000 in
theorem JRun_dims (regs : Int) (a : Option Addr) (c : Nat) (f : Fo) (g : Good regs f) (ra : Option Addr) (rn rc : Nat) (w : World) (h : At w a f.flat) (hn : regs < (rn : Int)) :
    Calls Tryz.prog 69 #[.agg #[.int .i64 regs, .slice a f.flat.length c], .slice ra rn rc] w fun e w' => e = .returned (.tuple #[.slice none 0 0, .int .i64 10]) ∧ Below w.heap.size w w' := by
  have hl : f.flat.length ≤ 4096 := g.len
  have h1 := h.belowN (below_new12 w (.cells #[.int .i64 regs, .slice a f.flat.length c] 24))
  have hb0 := below_new12 w (.cells #[.int .i64 regs, .slice a f.flat.length c] 24)
  have HP := hide (Code_calls regs a c f.flat _ h1 (by omega))
  unfold CodePost at HP
  rw [g.check, codeS_good g] at HP
  clear g
  go_enter Tryz.func69, Tryz.ntmps69
  go_wp2_with (go_at_call 47; ((with_reducible refine (HP.out).mono ?_); rintro e w1 ⟨a1, c1, rfl, hown1, hb1⟩; have hbx := (Blk.new w 24 #[.int .i64 regs, .slice a f.flat.length c]).belowN hb1; obtain ⟨p0, p1, p2, p3⟩ := hbx.c2))
  go_ret2
  exact ⟨rfl, hb0.trans (hb1.mono hb0.size)⟩
set_option maxRecDepth 100000 in
set_option maxHeartbeats 1600000 in
theorem JRun_good (nr : Nat) (a : Option Addr) (c : Nat) (f : Fo) (g : Good nr f) (ra : Option Addr) (rn rc : Nat) (r : List DuD) (hrn : rn = r.length) (w : World) (h : At w a f.flat) (hr : At w ra r) (hn : rn ≤ nr) :
    Calls Tryz.prog 69 #[.agg #[.int .i64 (nr : Int), .slice a f.flat.length c], .slice ra rn rc] w fun e w' => ∃ a' c', e = .returned (.tuple #[.slice a' nr c', .int .i64 0]) ∧ Own w' w.heap.size 111 a' c' (runD f.unroll (startD nr r)) ∧ Below w.heap.size w w' := by
  have hl : f.flat.length ≤ 4096 := g.len
  have hr64 : nr ≤ 64 := by have := g.r2; omega
  have hX := Blk.new w 24 #[.int .i64 nr, .slice a f.flat.length c]
  have h1 := h.belowN (below_new12 w (.cells #[.int .i64 nr, .slice a f.flat.length c] 24))
  have hr1 := hr.belowN (below_new12 w (.cells #[.int .i64 nr, .slice a f.flat.length c] 24))
  have hb0 := below_new12 w (.cells #[.int .i64 nr, .slice a f.flat.length c] 24)
  have HP := hide (Code_calls nr a c f.flat _ h1 (by omega))
  have hnn : ¬ nr < rn := by omega
  have hst : startD nr r = r ++ (List.replicate nr (⟨0, 0⟩ : DuD)).drop r.length := by unfold startD; rw [List.drop_replicate]
  obtain ⟨R0, hR0⟩ : ∃ R0, startD nr r = R0 := ⟨_, rfl⟩
  have hRl : R0.length = nr := by rw [← hR0, startD_length nr r (by omega)]
  rw [hR0] at hst ⊢
  unfold CodePost at HP
  rw [g.check, codeS_good g] at HP
  have HX := hide (fun (ac : Option Addr) (cc gr cr Br : Nat) (W : World) h1 h2 h3 => jexec_calls nr f g ac cc gr cr Br R0 W h1 h2 h3 (by omega))
  rw [hRl] at HX
  have HRN := hide hrn
  have HST := hide hst.symm
  generalize f.unroll = U at *
  generalize f.bare.code 0 = code at *
  have hle : r.length ≤ nr := by omega
  clear g hrn hst hR0 hRl
  go_enter Tryz.func69, Tryz.ntmps69
  go_wp2_with (first
    | (go_at_call 47; go_must ((with_reducible refine (HP.out).mono ?_); rintro e w1 ⟨a1, c1, rfl, hown1, hb1⟩; have hC1 := hb0.trans (hb1.mono hb0.size); have hz1 := hb1.size; simp only [World.size_alloc] at hz1; obtain ⟨p0, p1, p2, p3⟩ := (hX.belowN hb1).c2))
    | (go_at_call 115; go_must ((with_reducible refine (HX.out a1 c1 w1.heap.size nr w.heap.size w3 hcode hcne hown4).mono ?_); rintro e w5 ⟨rfl, hown5, hTu⟩))
    | (at_make; refine wpList_mkN tyND (B := w.heap.size) (n := nr) rfl rfl rfl rfl rfl rfl (by omega) (by omega) ?_; intro w2 hown2 hg2)
    | (refine wpList_copyInN tyD rfl rfl rfl rfl (by simp) HRN.out (by simpa using hle) hown2 ((hr1.belowN hb1).grown hg2 (fun _ => .inr rfl)) ?_; intro w3 hown3 hg3; have hown4 := hown3; rw [HST.out] at hown4; have hcode := (((hown1.mono (by simp : w.heap.size ≤ _)).belowN (below_of_grown hg2)).grown hg3 (.inr (fun e => by have := (hown1.blk _ e).2; omega))).at_; have hcne : code ≠ [] → ∀ q, a1.map (·.block) = some q → q ≠ w1.heap.size := (fun _ q e e2 => by have := (hown1.blk _ e).2; omega)))
  go_ret2
  have hC3 := Below.grown (Below.grown hC1 hg2 (by omega) (fun k hk => by cases hk)) hg3 (by have := hg2.size; omega) (fun k hk => by injection hk with hk; omega)
  exact ⟨some ⟨w1.heap.size, 0, none⟩, nr, rfl, hown5, below_turned hC3 hTu (fun b hb => by simp at hb; omega) hC3.size⟩
theorem JRun_calls (regs : Int) (a : Option Addr) (c ln : Nat) (l : List OpD) (hln : ln = l.length) (ra : Option Addr) (rn rc : Nat) (r : List DuD) (hrn : rn = r.length) (A : List DuD) (E : Int) (hA : dualR regs l r = A) (hE : dualE regs l rn = E) (w : World) (h : At w a l) (hl : ln ≤ 1000000) (hr : At w ra r) :
    Calls Tryz.prog 69 #[.agg #[.int .i64 regs, .slice a ln c], .slice ra rn rc] w fun e w' => ∃ a' c', e = .returned (.tuple #[.slice a' A.length c', .int .i64 E]) ∧ Own w' w.heap.size 111 a' c' A ∧ Below w.heap.size w w' := by
  subst hln hA hE
  by_cases hc : dualE regs l rn = 0
  · rw [hc]
    obtain ⟨f, rfl, g, hn⟩ := dualE_good hc
    obtain ⟨nr, rfl⟩ : ∃ nr : Nat, regs = nr := ⟨regs.toNat, by have := g.r1; omega⟩
    rw [dualR_good g (by omega)]
    refine (JRun_good nr a c f g ra rn rc r hrn w h hr (by omega)).mono ?_
    rintro e w' ⟨a', c', rfl, o, hb⟩
    refine ⟨a', c', ?_, o, hb⟩
    rw [Int.toNat_natCast, runD_length, startD_length _ _ (by omega)]
  · rw [dualR_bad (by rw [← hrn]; exact hc)]
    have key : Calls Tryz.prog 69 #[.agg #[.int .i64 regs, .slice a l.length c], .slice ra rn rc] w fun e w' => e = .returned (.tuple #[.slice none 0 0, .int .i64 (dualE regs l rn)]) ∧ Below w.heap.size w w' := by
      by_cases h0 : checkS regs l = 0
      · obtain ⟨f, rfl, g⟩ := good_of_check h0
        have hd : regs < (rn : Int) := Classical.byContradiction fun hd => hc (dualE_of g (by omega))
        rw [dualE_dims g hd]
        exact JRun_dims regs a c f g ra rn rc w h hd
      · rw [dualE_bad h0]
        exact JRun_bad regs a c l ra rn rc w h hl h0
    refine key.mono ?_
    rintro e w' ⟨rfl, hb⟩
    exact ⟨none, 0, rfl, Own.none _ _ _, hb⟩
theorem DConst_calls (v : UInt64) (w : World) : Calls Tryz.prog 105 #[.int .u64 (v.toNat : Int)] w fun e w' => e = .returned (.agg #[.int .u64 (v.toNat : Int), .int .u64 0]) ∧ Below w.heap.size w w' := by
  have hF := Blk.new w 111 #[.int .u64 (v.toNat : Int), .int .u64 0]
  go_enter Tryz.func105, Tryz.ntmps105
  go_wp2
  try simp only [Exit.then, Exit.inBlock]
  refine bodyPost_ret (results_row_D rfl _ _ w.heap.size _ #[.int .u64 (v.toNat : Int), .int .u64 0] (0, 0) _ rfl hF Tryz.underlying111 rfl (by kernel_rfl)) rfl ⟨rfl, ?_⟩
  exact below_new12 w _
end Go.Proofs.YtcamcnahkdiefaaGreat

/- Chapter 14: jet.Along. -/
namespace Go.Proofs.YtcamcnahkdiefaaGreat
set_option linter.unusedVariables false
set_option linter.unusedSimpArgs false
open Go.RowKit
end Go.Proofs.YtcamcnahkdiefaaGreat

/- Chapter 14: a matrix in memory: rows of the call's own. -/
namespace Go.Proofs.YtcamcnahkdiefaaGreat
set_option linter.unusedVariables false
set_option linter.unusedSimpArgs false
open Go.RowKit
structure OwnM (w : World) (B : Nat) (g c : Nat) (hs : List Hd) (ls : List (List UInt64)) : Prop where
  out : Own w B 46 (some ⟨g, 0, none⟩) c hs
  len : hs.length = ls.length
  row : ∀ (k : Nat) (h : Hd) (l : List UInt64), hs[k]? = some h → ls[k]? = some l → h.n = l.length ∧ Own w B 50 h.a h.c l ∧ h.a.map (·.block) ≠ some g
  far : ∀ (j k : Nat) (h h' : Hd) (q : Nat), j ≠ k → hs[j]? = some h → hs[k]? = some h' → h.a.map (·.block) = some q → h'.a.map (·.block) ≠ some q
theorem OwnM.at_ {w : World} {B g c : Nat} {hs : List Hd} {ls : List (List UInt64)} (h : OwnM w B g c hs ls) : AtL w (some ⟨g, 0, none⟩) ls :=
  ⟨hs, h.out.at_, h.len, fun i x l hx hl => let ⟨e1, e2, _⟩ := h.row i x l hx hl; ⟨e1, e2.cap.1, e2.at_⟩⟩
theorem OwnM.belowN {w w' : World} {B g c : Nat} {hs : List Hd} {ls : List (List UInt64)} (h : OwnM w B g c hs ls) (hb : Below w.heap.size w w') : OwnM w' B g c hs ls :=
  ⟨h.out.belowN hb, h.len, fun k x l hx hl => let ⟨e1, e2, e3⟩ := h.row k x l hx hl; ⟨e1, e2.belowN hb, e3⟩, h.far⟩
theorem OwnM.new {w : World} {B g c n : Nat} (h : Own w B 46 (some ⟨g, 0, none⟩) c (List.replicate n (⟨none, 0, 0⟩ : Hd))) : OwnM w B g c (List.replicate n ⟨none, 0, 0⟩) (List.replicate n []) := by
  refine ⟨h, by simp, fun k x l hx hl => ?_, fun j k x x' q hjk hx hx' hq => ?_⟩
  · obtain rfl := (List.mem_replicate.1 (List.mem_of_getElem? hx)).2
    obtain rfl := (List.mem_replicate.1 (List.mem_of_getElem? hl)).2
    exact ⟨rfl, Own.none _ _ _, by simp⟩
  · obtain rfl := (List.mem_replicate.1 (List.mem_of_getElem? hx)).2
    simp at hq
theorem OwnM.push {w w8 : World} {B g c : Nat} {hs : List Hd} {ls : List (List UInt64)} (h : OwnM w B g c hs ls) {k : Nat} {hd : Hd} {l : List UInt64} (hk : hs[k]? = some hd) (hl : ls[k]? = some l) {v : UInt64} {a' : Option Addr} {c' : Nat}
    (own : Own w8 B 50 a' c' (l ++ [v])) (hg : w.grownBy w8 (hd.a.map (·.block))) (hm : a'.map (·.block) = hd.a.map (·.block) ∨ ∃ q, a'.map (·.block) = some q ∧ w.heap.size ≤ q) {n : Nat} (hn : n = l.length + 1) :
    OwnM (w8.setCell ⟨g, k, none⟩ (.slice a' n c')) B g c (hs.set k ⟨a', n, c'⟩) (ls.set k (l ++ [v])) := by
  subst hn
  obtain ⟨e1, e2, e3⟩ := h.row k hd l hk hl
  have hkl := (List.getElem?_eq_some_iff.1 hk).1
  have hgw := (h.out.blk g rfl).2
  have ha' : a'.map (·.block) ≠ some g := by
    rcases hm with e | ⟨q, e, hq⟩
    · rw [e]; exact e3
    · rw [e]; intro e'; injection e' with e'; omega
  refine ⟨?_, by simp [h.len], fun j x m hx hm' => ?_, fun i j x x' q hij hx hx' hq => ?_⟩
  · exact (h.out.grown hg (.inr (fun e => e3 e.symm))).set1 k ⟨a', l.length + 1, c'⟩ _ rfl
  · by_cases hjk : k = j
    · subst hjk
      rw [List.getElem?_set, if_pos rfl, if_pos hkl] at hx
      rw [List.getElem?_set, if_pos rfl, if_pos (by rw [← h.len]; exact hkl)] at hm'
      obtain rfl := Option.some.inj hx
      obtain rfl := Option.some.inj hm'
      exact ⟨by simp, own.far ha' _, ha'⟩
    · rw [List.getElem?_set, if_neg hjk] at hx hm'
      obtain ⟨f1, f2, f3⟩ := h.row j x m hx hm'
      refine ⟨f1, (f2.grown hg ?_).far f3 _, f3⟩
      cases hxa : x.a.map (·.block) with
      | none => exact .inl rfl
      | some q => exact .inr (fun e => h.far j k x hd q (fun e => hjk e.symm) hx hk hxa e.symm)
  · by_cases hki : k = i
    · subst hki
      rw [List.getElem?_set, if_pos rfl, if_pos hkl] at hx
      rw [List.getElem?_set, if_neg hij] at hx'
      obtain rfl := Option.some.inj hx
      rcases hm with e | ⟨q', e, hq'⟩
      · rw [e] at hq; exact h.far k j hd x' q hij hk hx' hq
      · simp only at hq
        rw [e] at hq
        injection hq with hq
        obtain ⟨m, hm2⟩ : ∃ m, ls[j]? = some m := ⟨ls[j]'(by rw [← h.len]; exact (List.getElem?_eq_some_iff.1 hx').1), List.getElem?_eq_getElem _⟩
        intro e'
        have := ((h.row j x' m hx' hm2).2.1.blk q e').2
        omega
    · rw [List.getElem?_set, if_neg hki] at hx
      by_cases hkj : k = j
      · subst hkj
        rw [List.getElem?_set, if_pos rfl, if_pos hkl] at hx'
        obtain rfl := Option.some.inj hx'
        rcases hm with e | ⟨q', e, hq'⟩
        · simp only; rw [e]; exact h.far i k x hd q hij hx hk hq
        · simp only
          rw [e]
          intro e'
          injection e' with e'
          obtain ⟨m, hm2⟩ : ∃ m, ls[i]? = some m := ⟨ls[i]'(by rw [← h.len]; exact (List.getElem?_eq_some_iff.1 hx).1), List.getElem?_eq_getElem _⟩
          have := ((h.row i x m hx hm2).2.1.blk q hq).2
          omega
      · rw [List.getElem?_set, if_neg hkj] at hx'
        exact h.far i j x x' q hij hx hx' hq
end Go.Proofs.YtcamcnahkdiefaaGreat

/- Chapter 14: jet.Matrix and ref14.Matrix. -/
namespace Go.Proofs.YtcamcnahkdiefaaGreat
set_option linter.unusedVariables false
set_option linter.unusedSimpArgs false
open Go.RowKit
end Go.Proofs.YtcamcnahkdiefaaGreat

/- Chapter 14: jet.Pull. -/
namespace Go.Proofs.YtcamcnahkdiefaaGreat
set_option linter.unusedVariables false
set_option linter.unusedSimpArgs false
open Go.RowKit
end Go.Proofs.YtcamcnahkdiefaaGreat

/- Boxes that a call makes for its struct arguments and its struct result. -/
namespace Go.Proofs.YtcamcnahkdiefaaGreat
set_option linter.unusedVariables false
set_option linter.unusedSimpArgs false
open Go.RowKit
theorem below_box (w : World) (o : Obj) : Below w.heap.size w (w.alloc o) := (Below.refl _ _).alloc (Nat.le_refl _) _
theorem three_boxes (w : World) (T1 T2 T3 : TypeId) (c1 c2 c3 : Array Value) : Blk (((w.alloc (.cells c1 T1)).alloc (.cells c2 T2)).alloc (.cells c3 T3)) w.heap.size T1 c1 ∧ Blk (((w.alloc (.cells c1 T1)).alloc (.cells c2 T2)).alloc (.cells c3 T3)) (w.heap.size + 1) T2 c2 ∧
    Blk (((w.alloc (.cells c1 T1)).alloc (.cells c2 T2)).alloc (.cells c3 T3)) (w.heap.size + 1 + 1) T3 c3 ∧ Below w.heap.size w (((w.alloc (.cells c1 T1)).alloc (.cells c2 T2)).alloc (.cells c3 T3)) ∧ (((w.alloc (.cells c1 T1)).alloc (.cells c2 T2)).alloc (.cells c3 T3)).heap.size = w.heap.size + 1 + 1 + 1 := by
  have h1 := Blk.new w T1 c1
  have h2 := Blk.new (w.alloc (.cells c1 T1)) T2 c2
  have h3 := Blk.new ((w.alloc (.cells c1 T1)).alloc (.cells c2 T2)) T3 c3
  rw [World.size_alloc] at h2
  rw [World.size_alloc, World.size_alloc] at h3
  exact ⟨(h1.alloc _).alloc _, h2.alloc _, h3, ((below_box w _).alloc (by simp) _).alloc (by simp; omega) _, by simp⟩
theorem two_boxes (w : World) (T1 T2 : TypeId) (c1 c2 : Array Value) : Blk ((w.alloc (.cells c1 T1)).alloc (.cells c2 T2)) w.heap.size T1 c1 ∧ Blk ((w.alloc (.cells c1 T1)).alloc (.cells c2 T2)) (w.heap.size + 1) T2 c2 ∧
    Below w.heap.size w ((w.alloc (.cells c1 T1)).alloc (.cells c2 T2)) ∧ ((w.alloc (.cells c1 T1)).alloc (.cells c2 T2)).heap.size = w.heap.size + 1 + 1 := by
  have h1 := Blk.new w T1 c1
  have h2 := Blk.new (w.alloc (.cells c1 T1)) T2 c2
  rw [World.size_alloc] at h2
  exact ⟨h1.alloc _, h2, (below_box w _).alloc (by simp) _, by simp⟩
theorem four_boxes (w : World) (T1 T2 T3 T4 : TypeId) (c1 c2 c3 c4 : Array Value) : Blk ((((w.alloc (.cells c1 T1)).alloc (.cells c2 T2)).alloc (.cells c3 T3)).alloc (.cells c4 T4)) w.heap.size T1 c1 ∧ Blk ((((w.alloc (.cells c1 T1)).alloc (.cells c2 T2)).alloc (.cells c3 T3)).alloc (.cells c4 T4)) (w.heap.size + 1) T2 c2 ∧
    Blk ((((w.alloc (.cells c1 T1)).alloc (.cells c2 T2)).alloc (.cells c3 T3)).alloc (.cells c4 T4)) (w.heap.size + 1 + 1) T3 c3 ∧ Blk ((((w.alloc (.cells c1 T1)).alloc (.cells c2 T2)).alloc (.cells c3 T3)).alloc (.cells c4 T4)) (w.heap.size + 1 + 1 + 1) T4 c4 ∧ Below w.heap.size w ((((w.alloc (.cells c1 T1)).alloc (.cells c2 T2)).alloc (.cells c3 T3)).alloc (.cells c4 T4)) ∧ ((((w.alloc (.cells c1 T1)).alloc (.cells c2 T2)).alloc (.cells c3 T3)).alloc (.cells c4 T4)).heap.size = w.heap.size + 1 + 1 + 1 + 1 := by
  obtain ⟨h1, h2, h3, hb, hz⟩ := three_boxes w T1 T2 T3 c1 c2 c3
  have h4 := Blk.new (((w.alloc (.cells c1 T1)).alloc (.cells c2 T2)).alloc (.cells c3 T3)) T4 c4
  rw [hz] at h4
  exact ⟨h1.alloc _, h2.alloc _, h3.alloc _, h4, hb.alloc (by omega) _, by simp⟩
theorem results_rowP {P : Program} {fn : Func} {p u : Tmp} {ty : TypeId} (h : fn.results = #[.cell p ty, .tmp u]) (tmps : Array Value) (w : World) (g : Nat) (t : TypeId) (cs : Array Value) (fr : Nat × Nat) (d : TypeDesc)
    (hp : tmps.getD p undef = .pointer (some ⟨g, 0, none⟩)) (hg : w.heap[g]? = some (.cells cs t fr)) (hu : P.underlying ty = some d) (hd : (match d with | .struct _ | .array _ _ => true | _ => false) = true) (hi : (P.info? ty).map (·.size) = some cs.size) :
    (results fn tmps).run P w = .ok (.tuple #[.agg cs, tmps.getD u undef]) w := by
  have h0 : (results fn tmps).run P w =
      ((asAddr (tmps.getD p undef)).run P w).andThen fun a w₁ => ((loadVar ty a).run P w₁).andThen fun z w₂ => .ok (.tuple #[z, tmps.getD u undef]) w₂ := by
    simp only [results, h]
    simp [Sem.run_bind, Result.andThen]
  rw [h0, hp]
  simp [asAddr, run_loadVar_row w g t ty cs fr d hg hu hd hi, Result.andThen]
end Go.Proofs.YtcamcnahkdiefaaGreat

/- Chapter 24: may there be such a chain, of so many steps? -/
namespace Go.Proofs.YtcamcnahkdiefaaGreat
set_option linter.unusedVariables false
set_option linter.unusedSimpArgs false
open Go.RowKit
def ChD.mayM (c : ChD) (l : Int) : Int := if c.bad ≠ 0 then c.bad else if l < 0 ∨ 65536 ≤ l then 2 else 0
theorem ChD.mayM_ok {c : ChD} {l : Int} (h : c.mayM l = 0) : c.Ok ∧ 0 ≤ l ∧ l < 65536 := by
  unfold ChD.mayM at h
  split at h
  · rename_i h0; exact absurd h h0
  · rename_i h0
    split at h
    · cases h
    · exact ⟨c.ok_of (Decidable.not_not.1 h0), by omega, by omega⟩
abbrev PrD.val (p : PrD) : Value := .agg #[.int .i64 p.regs, .slice p.a p.l.length p.c]
set_option maxRecDepth 100000 in
set_option maxHeartbeats 3200000 in
theorem May24M_calls (c : ChD) (a : Option Addr) (k : Nat) (t : Int) (w : World) (h : At w c.p.a c.p.l) (hl : c.p.l.length ≤ 1000000) (h' : At w c.q.a c.q.l) (hl' : c.q.l.length ≤ 1000000) (h3 : At w a c.th) (hx : -9223372036854775808 ≤ c.x ∧ c.x ≤ 9223372036854775807) (hn : c.th.length ≤ 1000000) (E : Int) (hE : c.mayM t = E) :
    Calls Tryz.prog 52 #[.agg #[.int .i64 c.p.regs, .slice c.p.a c.p.l.length c.p.c], .agg #[.int .i64 c.q.regs, .slice c.q.a c.q.l.length c.q.c], .int .i64 c.x, .slice a c.th.length k, .int .i64 t] w fun e w' => e = .returned (.int .i64 E) ∧ Below w.heap.size w w' := by
  obtain ⟨hX, hY, hb0, hz0⟩ := two_boxes w 24 24 #[.int .i64 c.p.regs, .slice c.p.a c.p.l.length c.p.c] #[.int .i64 c.q.regs, .slice c.q.a c.q.l.length c.q.c]
  obtain ⟨p0, p1, p2, p3⟩ := hX.c2
  obtain ⟨p4, p5, p6, p7⟩ := hY.c2
  have h1 := h.belowN hb0
  have h1' := h'.belowN hb0
  have h31 := h3.belowN hb0
  unfold ChD.mayM at hE
  by_cases hB : c.bad ≠ 0
  · rw [if_pos hB] at hE
    have e1 : (E == 0) = false := by rw [← hE]; simpa using hB
    have e2 : (E != 0) = true := by rw [← hE]; simpa using hB
    have HN := hide (NewBad_calls c a k _ h1 hl h1' hl' hx hn E hE (by rw [← hE]; exact hB))
    clear hE hB
    go_enter Tryz.func52, Tryz.ntmps52
    go_wp2_with (go_at_call 36; go_must ((with_reducible refine (HN.out).mono ?_); rintro e w1 ⟨rfl, hb1⟩))
    go_ret
    exact ⟨rfl, hb0.trans (hb1.mono hb0.size)⟩
  · rw [if_neg hB] at hE
    have HN := hide (NewGood_calls c a k _ h1 hl h1' hl' h31 hx hn (Decidable.not_not.1 hB))
    clear hB
    by_cases ht : t < 0 ∨ 65536 ≤ t
    · rw [if_pos ht] at hE
      subst hE
      by_cases h0 : t < 0
      · go_enter Tryz.func52, Tryz.ntmps52
        go_wp2_with (go_at_call 36; go_must ((with_reducible refine (HN.out).mono ?_); rintro e w1 ⟨g, rfl, hg1, hg2, hb1⟩))
        go_ret
        exact ⟨rfl, hb0.trans (hb1.mono hb0.size)⟩
      · have h65 : 65536 ≤ t := by omega
        go_enter Tryz.func52, Tryz.ntmps52
        go_wp2_with (go_at_call 36; go_must ((with_reducible refine (HN.out).mono ?_); rintro e w1 ⟨g, rfl, hg1, hg2, hb1⟩))
        go_ret
        exact ⟨rfl, hb0.trans (hb1.mono hb0.size)⟩
    · rw [if_neg ht] at hE
      subst hE
      have h0 : 0 ≤ t := by omega
      have h65 : t < 65536 := by omega
      clear ht
      go_enter Tryz.func52, Tryz.ntmps52
      go_wp2_with (go_at_call 36; go_must ((with_reducible refine (HN.out).mono ?_); rintro e w1 ⟨g, rfl, hg1, hg2, hb1⟩))
      go_ret
      exact ⟨rfl, hb0.trans (hb1.mono hb0.size)⟩
end Go.Proofs.YtcamcnahkdiefaaGreat
