/- Chapter 21: Record, Undo. -/
import Derived.Test.YtmmepffdjmpblaaGreatT21c
namespace Go.Proofs.YtmmepffdjmpblaaGreat
set_option linter.unusedVariables false
set_option linter.unusedSimpArgs false
open Go.RowKit

theorem blkL_some (g : Nat) : blkL (some ⟨g, 0, none⟩) = [g] := rfl
set_option maxRecDepth 100000 in
set_option maxHeartbeats 1600000 in
theorem Record_good (regs : Int) (a : Option Addr) (c : Nat) (f : Fo) (g : Good regs f) (gr rc : Nat) (r : List UInt64) (Br : Nat) (ta : Option Addr) (tc : Nat) (t : List UInt64) (Bt : Nat) (w : World) (h : At w a f.flat) (hr : Own w Br 50 (some ⟨gr, 0, none⟩) rc r) (ht : Own w Bt 50 ta tc t)
    (htl : t.length ≤ 1000000) (hn : (r.length : Int) = regs) (hu : f.unroll.length ≤ t.length) (hne : ta.map (·.block) ≠ some gr) :
    Calls Tryz.prog 43 #[.agg #[.int .i64 regs, .slice a f.flat.length c], .slice (some ⟨gr, 0, none⟩) r.length rc, .slice ta t.length tc] w fun e w' => e = .returned (.tuple #[.int .i64 (f.unroll.length : Int), .int .i64 0]) ∧ Own w' Br 50 (some ⟨gr, 0, none⟩) rc (runR f.unroll r) ∧ Own w' Bt 50 ta tc (tpR f.unroll r t) ∧ Turned (gr :: blkL ta) w w' := by
  have hr64 : r.length ≤ 64 := by have := g.r2; omega
  have hul : f.unroll.length ≤ 65536 := by rw [Fo.unroll_length]; exact g.few
  have hgr := (hr.blk gr rfl).2
  have htb := fun q hq => (ht.blk q hq).2
  have hb0 := below_new12 w (.cells #[.int .i64 regs, .slice a f.flat.length c] 24)
  have HP := hide (ready_ok regs a c f g (some ⟨gr, 0, none⟩) r.length rc ta t.length tc _ (h.belowN hb0) (by omega) htl hn hu)
  have hr1 := hr.belowN hb0
  have ht1 := ht.belowN hb0
  have HX := hide fun ac cc W hc hcb o1 o2 => texec_calls regs f g ac cc gr rc ta tc Br Bt r t W hc hcb o1 hn o2 hu hne
  have HT := hide htb
  generalize f.unroll = U at *
  generalize f.bare.code 0 = code at *
  clear g hn hu hne htb
  go_enter Tryz.func43, Tryz.ntmps43
  go_wp2_with (first
    | (go_at_call 61; ((with_reducible refine (HP.out).mono ?_); rintro e w1 ⟨a1, c1, rfl, hown1, hb1⟩; have hB1 := hb0.trans (hb1.mono hb0.size); have hr2 := hr1.belowN hb1; have ht2 := ht1.belowN hb1))
    | (go_at_call 62; go_must ((with_reducible refine (HX.out _ _ _ hown1.at_ (fun _ q hq => ⟨fun e => by have := (hown1.blk q hq).1; simp at this; omega, fun e => by have h1 := (hown1.blk q hq).1; have h2 := HT.out q e; simp at h1; omega⟩) hr2 ht2).mono ?_); rintro e w2 ⟨rfl, hown3, hown4, hT⟩)))
  go_ret2
  exact ⟨rfl, hown3, hown4, (Turned.ofBelow hB1).trans hT (fun q hq => .inl hq)⟩
set_option maxHeartbeats 800000 in
theorem Record_bad (regs : Int) (a : Option Addr) (c : Nat) (l : List OpD) (ra : Option Addr) (rn rc : Nat) (ta : Option Addr) (tn tc : Nat) (w : World) (h : At w a l) (hl : l.length ≤ 1000000) (hrn : rn ≤ 1000000) (htn : tn ≤ 1000000) (hc : readyS regs l rn tn ≠ 0) :
    Calls Tryz.prog 43 #[.agg #[.int .i64 regs, .slice a l.length c], .slice ra rn rc, .slice ta tn tc] w fun e w' => e = .returned (.tuple #[.int .i64 0, .int .i64 (readyS regs l rn tn)]) ∧ Below w.heap.size w w' := by
  have hb0 := below_new12 w (.cells #[.int .i64 regs, .slice a l.length c] 24)
  have HP := hide (ready_err regs a c l ra rn rc ta tn tc _ (h.belowN hb0) hl hrn htn hc)
  obtain ⟨E, hE⟩ : ∃ E, E = readyS regs l rn tn := ⟨_, rfl⟩
  rw [← hE] at HP hc ⊢
  have e1 : (E == 0) = false := by simpa using hc
  have e2 : (E != 0) = true := by simpa using hc
  clear hE hc
  go_enter Tryz.func43, Tryz.ntmps43
  go_wp2_with (go_at_call 61; ((with_reducible refine (HP.out).mono ?_); rintro e w1 ⟨rfl, hb1⟩; have hB1 := hb0.trans (hb1.mono hb0.size)))
  go_ret2
  exact ⟨rfl, hB1⟩
theorem Record_calls (regs : Int) (a : Option Addr) (c : Nat) (l : List OpD) (ra : Option Addr) (rc : Nat) (r : List UInt64) (Br : Nat) (ta : Option Addr) (tc : Nat) (t : List UInt64) (Bt : Nat) (w : World) (h : At w a l) (hl : l.length ≤ 1000000) (hr : Own w Br 50 ra rc r) (ht : Own w Bt 50 ta tc t)
    (hrl : r.length ≤ 1000000) (htl : t.length ≤ 1000000) (hne : ∀ q, ra.map (·.block) = some q → ta.map (·.block) ≠ some q) :
    Calls Tryz.prog 43 #[.agg #[.int .i64 regs, .slice a l.length c], .slice ra r.length rc, .slice ta t.length tc] w fun e w' => e = .returned (.tuple #[.int .i64 (recN regs l r.length t.length), .int .i64 (readyS regs l r.length t.length)]) ∧ Own w' Br 50 ra rc (recR regs l r t) ∧ Own w' Bt 50 ta tc (recT regs l r t) ∧ Turned (blkL ra ++ blkL ta) w w' := by
  by_cases hc : readyS regs l r.length t.length = 0
  · rw [hc]
    obtain ⟨f, rfl, g, hn, hu⟩ := ready_good hc
    obtain ⟨e1, e2, e3, _⟩ := rec_good g hn hu
    rw [e1, e2, e3]
    obtain ⟨gr, rfl, _⟩ := hr.some_ (by intro e; rw [e] at hn; have := g.r1; simp at hn; omega)
    exact Record_good regs a c f g gr rc r Br ta tc t Bt w h hr ht htl hn hu (hne gr rfl)
  · obtain ⟨e1, e2, e3, _⟩ := rec_bad hc
    rw [e1, e2, e3]
    refine (Record_bad regs a c l ra r.length rc ta t.length tc w h hl hrl htl hc).mono ?_
    rintro e w' ⟨rfl, hb⟩
    exact ⟨rfl, hr.belowN hb, ht.belowN hb, Turned.ofBelow hb⟩
end Go.Proofs.YtmmepffdjmpblaaGreat
