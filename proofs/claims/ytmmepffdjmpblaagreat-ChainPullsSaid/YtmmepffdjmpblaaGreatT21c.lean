/- Chapter 21: ready, Record, Undo. -/
import Derived.Deep.DeepMust
import Derived.Test.YtmmepffdjmpblaaGreatT21b
import Derived.Test.YtmmepffdjmpblaaGreatQk
import Derived.Test.YtmmepffdjmpblaaGreatQj
namespace Go.Proofs.YtmmepffdjmpblaaGreat
set_option linter.unusedVariables false
set_option linter.unusedSimpArgs false
open Go.RowKit

theorem Good.sizeW {regs : Int} {f : Fo} (g : Good regs f) : sizeW f.flat = (f.unroll.length : Int) ∧ sizeE f.flat = 0 := by
  obtain ⟨z1, z2, z3, z4⟩ := W9_ok g.ok ⟨g.may, g.few⟩
  exact ⟨by rw [z2, Fo.unroll_length], z1⟩
/-- may registers and a tape be handed in? -/
noncomputable def readyS (regs : Int) (l : List OpD) (rn tn : Nat) : Int := if checkS regs l ≠ 0 then checkS regs l else if (rn : Int) ≠ regs then 10 else if tn < (unrS regs l).length then 15 else 0
theorem ready_good {regs : Int} {l : List OpD} {rn tn : Nat} (h : readyS regs l rn tn = 0) : ∃ f : Fo, l = f.flat ∧ Good regs f ∧ (rn : Int) = regs ∧ f.unroll.length ≤ tn := by
  unfold readyS at h
  by_cases hc : checkS regs l = 0
  · rw [if_neg (by simpa using hc)] at h
    obtain ⟨f, rfl, g⟩ := good_of_check hc
    by_cases hn : (rn : Int) = regs
    · rw [if_neg (by simpa using hn), unrS_good g] at h
      by_cases ht : tn < f.unroll.length
      · rw [if_pos ht] at h; cases h
      · exact ⟨f, rfl, g, hn, by omega⟩
    · rw [if_pos hn] at h; cases h
  · rw [if_pos hc] at h; exact absurd h hc
theorem ready_of_good {regs : Int} {f : Fo} (g : Good regs f) {rn tn : Nat} (hn : (rn : Int) = regs) (ht : f.unroll.length ≤ tn) : readyS regs f.flat rn tn = 0 := by
  unfold readyS
  rw [if_neg (by simpa using g.check), if_neg (by simpa using hn), unrS_good g, if_neg (by omega)]
noncomputable def recR (regs : Int) (l : List OpD) (r t : List UInt64) : List UInt64 := if readyS regs l r.length t.length = 0 then runR (unrS regs l) r else r
noncomputable def recT (regs : Int) (l : List OpD) (r t : List UInt64) : List UInt64 := if readyS regs l r.length t.length = 0 then tpR (unrS regs l) r t else t
noncomputable def recN (regs : Int) (l : List OpD) (rn tn : Nat) : Int := if readyS regs l rn tn = 0 then ((unrS regs l).length : Int) else 0
noncomputable def undS (regs : Int) (l : List OpD) (r t : List UInt64) : List UInt64 := if readyS regs l r.length t.length = 0 then undoR (unrS regs l) t r else r
theorem rec_good {regs : Int} {f : Fo} (g : Good regs f) {r t : List UInt64} (hn : (r.length : Int) = regs) (ht : f.unroll.length ≤ t.length) :
    recR regs f.flat r t = runR f.unroll r ∧ recT regs f.flat r t = tpR f.unroll r t ∧ recN regs f.flat r.length t.length = (f.unroll.length : Int) ∧ undS regs f.flat r t = undoR f.unroll t r := by
  unfold recR recT recN undS
  rw [if_pos (ready_of_good g hn ht), if_pos (ready_of_good g hn ht), if_pos (ready_of_good g hn ht), if_pos (ready_of_good g hn ht), unrS_good g]
  exact ⟨rfl, rfl, rfl, rfl⟩
theorem rec_bad {regs : Int} {l : List OpD} {r t : List UInt64} (h : readyS regs l r.length t.length ≠ 0) : recR regs l r t = r ∧ recT regs l r t = t ∧ recN regs l r.length t.length = 0 ∧ undS regs l r t = r := by
  unfold recR recT recN undS
  rw [if_neg h, if_neg h, if_neg h, if_neg h]
  exact ⟨rfl, rfl, rfl, rfl⟩
theorem recR_length (regs : Int) (l : List OpD) (r t : List UInt64) : (recR regs l r t).length = r.length := by
  unfold recR
  split
  · rw [runR_length]
  · rfl
theorem recT_length (regs : Int) (l : List OpD) (r t : List UInt64) : (recT regs l r t).length = t.length := by
  by_cases h : readyS regs l r.length t.length = 0
  · obtain ⟨f, rfl, g, hn, ht⟩ := ready_good h
    rw [(rec_good g hn ht).2.1, tpR_length _ _ _ ht]
  · rw [(rec_bad h).2.1]
theorem undS_length (regs : Int) (l : List OpD) (r t : List UInt64) : (undS regs l r t).length = r.length := by
  unfold undS
  split
  · rw [undoR_length]
  · rfl

set_option maxHeartbeats 800000 in
theorem ready_bad (regs : Int) (a : Option Addr) (c : Nat) (l : List OpD) (ra : Option Addr) (rn rc : Nat) (ta : Option Addr) (tn tc : Nat) (w : World) (h : At w a l) (hl : l.length ≤ 1000000) (hc : checkS regs l ≠ 0) :
    Calls Tryz.prog 61 #[.agg #[.int .i64 regs, .slice a l.length c], .slice ra rn rc, .slice ta tn tc] w fun e w' => e = .returned (.tuple #[.slice none 0 0, .int .i64 (checkS regs l)]) ∧ Below w.heap.size w w' := by
  have h1 := h.belowN (below_new12 w (.cells #[.int .i64 regs, .slice a l.length c] 24))
  have hb0 := below_new12 w (.cells #[.int .i64 regs, .slice a l.length c] 24)
  have HP := hide (Code_calls regs a c l _ h1 hl)
  obtain ⟨E, hE⟩ : ∃ E, E = checkS regs l := ⟨_, rfl⟩
  unfold CodePost at HP
  rw [← hE] at HP hc ⊢
  have e1 : (E == 0) = false := by simpa using hc
  have e2 : (E != 0) = true := by simpa using hc
  clear hE hc
  go_enter Tryz.func61, Tryz.ntmps61
  go_wp2_with (go_at_call 41; ((with_reducible refine (HP.out).mono ?_); rintro e w1 ⟨a1, c1, rfl, hown1, hb1⟩))
  go_ret2
  exact ⟨rfl, hb0.trans (hb1.mono hb0.size)⟩
set_option maxRecDepth 100000 in
set_option maxHeartbeats 1600000 in
theorem ready_ok (regs : Int) (a : Option Addr) (c : Nat) (f : Fo) (g : Good regs f) (ra : Option Addr) (rn rc : Nat) (ta : Option Addr) (tn tc : Nat) (w : World) (h : At w a f.flat) (hrn : rn ≤ 1000000) (htn : tn ≤ 1000000) (hn : (rn : Int) = regs) (ht : f.unroll.length ≤ tn) :
    Calls Tryz.prog 61 #[.agg #[.int .i64 regs, .slice a f.flat.length c], .slice ra rn rc, .slice ta tn tc] w fun e w' => ∃ ac cc, e = .returned (.tuple #[.slice ac (f.bare.code 0).length cc, .int .i64 0]) ∧ Own w' w.heap.size 117 ac cc (f.bare.code 0) ∧ Below w.heap.size w w' := by
  have hl : f.flat.length ≤ 4096 := g.len
  have h1 := h.belowN (below_new12 w (.cells #[.int .i64 regs, .slice a f.flat.length c] 24))
  have hb0 := below_new12 w (.cells #[.int .i64 regs, .slice a f.flat.length c] 24)
  have HP := hide (Code_calls regs a c f.flat _ h1 (by omega))
  have HSZ := hide (fun w' (g : At w' a f.flat) => SizeW_calls a c f.flat w' g (by omega))
  unfold CodePost at HP
  rw [g.check, codeS_good g] at HP
  rw [g.sizeW.1, g.sizeW.2] at HSZ
  have hul : f.unroll.length ≤ 65536 := by rw [Fo.unroll_length]; exact g.few
  obtain ⟨r1, r2⟩ : 1 ≤ regs ∧ regs ≤ 64 := ⟨g.r1, g.r2⟩
  generalize f.unroll.length = nu at *
  clear g
  have hd : decide ((tn : Int) < (nu : Int)) = false := by simp; omega
  have bn : ((rn : Int) != regs) = false := by simpa using hn
  clear hn
  go_enter Tryz.func61, Tryz.ntmps61
  go_wp2_with (first
        | (go_at_call 41; ((with_reducible refine (HP.out).mono ?_); rintro e w1 ⟨a1, c1, rfl, hown1, hb1⟩; have hbx := (Blk.new w 24 #[.int .i64 regs, .slice a f.flat.length c]).belowN hb1; obtain ⟨p0, p1, p2, p3⟩ := hbx.c2; have h2 := h1.belowN hb1; have hB1 := hb0.trans (hb1.mono hb0.size)))
        | (go_at_call 40; go_must ((with_reducible refine (HSZ.out _ h2).mono ?_); rintro e w2 ⟨rfl, hb2⟩; have hbx2 := hbx.belowN hb2; obtain ⟨q0, q1, q2, q3⟩ := hbx2.c2)))
  go_ret2
  exact ⟨a1, c1, rfl, (hown1.mono (by simp)).belowN hb2, hB1.trans (hb2.mono hB1.size)⟩
set_option maxRecDepth 100000 in
set_option maxHeartbeats 1600000 in
theorem ready_full (regs : Int) (a : Option Addr) (c : Nat) (f : Fo) (g : Good regs f) (ra : Option Addr) (rn rc : Nat) (ta : Option Addr) (tn tc : Nat) (w : World) (h : At w a f.flat) (hrn : rn ≤ 1000000) (htn : tn ≤ 1000000) (hn : (rn : Int) = regs) (ht : ¬ f.unroll.length ≤ tn) :
    Calls Tryz.prog 61 #[.agg #[.int .i64 regs, .slice a f.flat.length c], .slice ra rn rc, .slice ta tn tc] w fun e w' => e = .returned (.tuple #[.slice none 0 0, .int .i64 15]) ∧ Below w.heap.size w w' := by
  have hl : f.flat.length ≤ 4096 := g.len
  have h1 := h.belowN (below_new12 w (.cells #[.int .i64 regs, .slice a f.flat.length c] 24))
  have hb0 := below_new12 w (.cells #[.int .i64 regs, .slice a f.flat.length c] 24)
  have HP := hide (Code_calls regs a c f.flat _ h1 (by omega))
  have HSZ := hide (fun w' (g : At w' a f.flat) => SizeW_calls a c f.flat w' g (by omega))
  unfold CodePost at HP
  rw [g.check, codeS_good g] at HP
  rw [g.sizeW.1, g.sizeW.2] at HSZ
  have hul : f.unroll.length ≤ 65536 := by rw [Fo.unroll_length]; exact g.few
  obtain ⟨r1, r2⟩ : 1 ≤ regs ∧ regs ≤ 64 := ⟨g.r1, g.r2⟩
  generalize f.unroll.length = nu at *
  clear g
  have hd : decide ((tn : Int) < (nu : Int)) = true := by simp; omega
  have bn : ((rn : Int) != regs) = false := by simpa using hn
  clear hn
  go_enter Tryz.func61, Tryz.ntmps61
  go_wp2_with (first
        | (go_at_call 41; ((with_reducible refine (HP.out).mono ?_); rintro e w1 ⟨a1, c1, rfl, hown1, hb1⟩; have hbx := (Blk.new w 24 #[.int .i64 regs, .slice a f.flat.length c]).belowN hb1; obtain ⟨p0, p1, p2, p3⟩ := hbx.c2; have h2 := h1.belowN hb1; have hB1 := hb0.trans (hb1.mono hb0.size)))
        | (go_at_call 40; go_must ((with_reducible refine (HSZ.out _ h2).mono ?_); rintro e w2 ⟨rfl, hb2⟩; have hbx2 := hbx.belowN hb2; obtain ⟨q0, q1, q2, q3⟩ := hbx2.c2)))
  go_ret2
  exact ⟨rfl, hB1.trans (hb2.mono hB1.size)⟩
set_option maxRecDepth 100000 in
set_option maxHeartbeats 1600000 in
theorem ready_dims (regs : Int) (a : Option Addr) (c : Nat) (f : Fo) (g : Good regs f) (ra : Option Addr) (rn rc : Nat) (ta : Option Addr) (tn tc : Nat) (w : World) (h : At w a f.flat) (hrn : rn ≤ 1000000) (htn : tn ≤ 1000000) (hn : ¬ (rn : Int) = regs) :
    Calls Tryz.prog 61 #[.agg #[.int .i64 regs, .slice a f.flat.length c], .slice ra rn rc, .slice ta tn tc] w fun e w' => e = .returned (.tuple #[.slice none 0 0, .int .i64 10]) ∧ Below w.heap.size w w' := by
  have hl : f.flat.length ≤ 4096 := g.len
  have h1 := h.belowN (below_new12 w (.cells #[.int .i64 regs, .slice a f.flat.length c] 24))
  have hb0 := below_new12 w (.cells #[.int .i64 regs, .slice a f.flat.length c] 24)
  have HP := hide (Code_calls regs a c f.flat _ h1 (by omega))
  have HSZ := hide (fun w' (g : At w' a f.flat) => SizeW_calls a c f.flat w' g (by omega))
  unfold CodePost at HP
  rw [g.check, codeS_good g] at HP
  rw [g.sizeW.1, g.sizeW.2] at HSZ
  have hul : f.unroll.length ≤ 65536 := by rw [Fo.unroll_length]; exact g.few
  obtain ⟨r1, r2⟩ : 1 ≤ regs ∧ regs ≤ 64 := ⟨g.r1, g.r2⟩
  generalize f.unroll.length = nu at *
  clear g
  have bn : ((rn : Int) != regs) = true := by simpa using hn
  clear hn
  go_enter Tryz.func61, Tryz.ntmps61
  go_wp2_with (first
        | (go_at_call 41; ((with_reducible refine (HP.out).mono ?_); rintro e w1 ⟨a1, c1, rfl, hown1, hb1⟩; have hbx := (Blk.new w 24 #[.int .i64 regs, .slice a f.flat.length c]).belowN hb1; obtain ⟨p0, p1, p2, p3⟩ := hbx.c2; have h2 := h1.belowN hb1; have hB1 := hb0.trans (hb1.mono hb0.size)))
        | (go_at_call 40; go_must ((with_reducible refine (HSZ.out _ h2).mono ?_); rintro e w2 ⟨rfl, hb2⟩; have hbx2 := hbx.belowN hb2; obtain ⟨q0, q1, q2, q3⟩ := hbx2.c2)))
  go_ret2
  exact ⟨rfl, hB1.trans (hb2.mono hB1.size)⟩
theorem ready_err (regs : Int) (a : Option Addr) (c : Nat) (l : List OpD) (ra : Option Addr) (rn rc : Nat) (ta : Option Addr) (tn tc : Nat) (w : World) (h : At w a l) (hl : l.length ≤ 1000000) (hrn : rn ≤ 1000000) (htn : tn ≤ 1000000) (hc : readyS regs l rn tn ≠ 0) :
    Calls Tryz.prog 61 #[.agg #[.int .i64 regs, .slice a l.length c], .slice ra rn rc, .slice ta tn tc] w fun e w' => e = .returned (.tuple #[.slice none 0 0, .int .i64 (readyS regs l rn tn)]) ∧ Below w.heap.size w w' := by
  by_cases h0 : checkS regs l = 0
  · obtain ⟨f, rfl, g⟩ := good_of_check h0
    by_cases h1 : (rn : Int) = regs
    · have ht : ¬ f.unroll.length ≤ tn := fun ht => hc (ready_of_good g h1 ht)
      have e : readyS regs f.flat rn tn = 15 := by unfold readyS; rw [if_neg (by simpa using h0), if_neg (by simpa using h1), unrS_good g, if_pos (by omega)]
      rw [e]
      exact ready_full regs a c f g ra rn rc ta tn tc w h hrn htn h1 ht
    · have e : readyS regs f.flat rn tn = 10 := by unfold readyS; rw [if_neg (by simpa using h0), if_pos h1]
      rw [e]
      exact ready_dims regs a c f g ra rn rc ta tn tc w h hrn htn h1
  · have e : readyS regs l rn tn = checkS regs l := by unfold readyS; rw [if_pos h0]
    rw [e]
    exact ready_bad regs a c l ra rn rc ta tn tc w h hl h0
end Go.Proofs.YtmmepffdjmpblaaGreat
