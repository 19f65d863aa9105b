/- Chapter 21: Record, Undo. -/
import Derived.Test.YtjfpnbnkfcgjcaaT21c
namespace Go.Proofs.Ytjfpnbnkfcgjcaa
set_option linter.unusedVariables false
set_option linter.unusedSimpArgs false
open Go.RowKit

theorem blkL_some (g : Nat) : blkL (some ⟨g, 0, none⟩) = [g] := rfl
set_option maxRecDepth 100000 in
set_option maxHeartbeats 1600000 in
theorem Record_good (regs : Int) (a : Option Addr) (c : Nat) (f : Fo) (g : Good regs f) (gr rc : Nat) (r : List UInt64) (Br : Nat) (ta : Option Addr) (tc : Nat) (t : List UInt64) (Bt : Nat) (w : World) (h : At w a f.flat) (hr : Own w Br 37 (some ⟨gr, 0, none⟩) rc r) (ht : Own w Bt 37 ta tc t)
    (htl : t.length ≤ 1000000) (hn : (r.length : Int) = regs) (hu : f.unroll.length ≤ t.length) (hne : ta.map (·.block) ≠ some gr) :
    Calls Try.prog 25 #[.agg #[.int .i64 regs, .slice a f.flat.length c], .slice (some ⟨gr, 0, none⟩) r.length rc, .slice ta t.length tc] w fun e w' => e = .returned (.tuple #[.int .i64 (f.unroll.length : Int), .int .i64 0]) ∧ Own w' Br 37 (some ⟨gr, 0, none⟩) rc (runR f.unroll r) ∧ Own w' Bt 37 ta tc (tpR f.unroll r t) ∧ Turned (gr :: blkL ta) w w' := by
  have hr64 : r.length ≤ 64 := by have := g.r2; omega
  have hul : f.unroll.length ≤ 65536 := by rw [Fo.unroll_length]; exact g.few
  have hgr := (hr.blk gr rfl).2
  have htb := fun q hq => (ht.blk q hq).2
  have hb0 := below_new12 w (.cells #[.int .i64 regs, .slice a f.flat.length c] 24)
  have HP := hide (ready_ok regs a c f g (some ⟨gr, 0, none⟩) r.length rc ta t.length tc _ (h.belowN hb0) (by omega) htl hn hu)
  have hr1 := hr.belowN hb0
  have ht1 := ht.belowN hb0
  have HX := hide fun ac cc W hc hcb o1 o2 => texec_calls regs f g ac cc gr rc ta tc Br Bt r t W hc hcb o1 hn o2 hu hne
  have HT := hide htb
  generalize f.unroll = U at *
  generalize f.bare.code 0 = code at *
  clear g hn hu hne htb
  go_enter Try.func25, Try.ntmps25
  go_wp2_with (first
    | (go_at_call 57; ((with_reducible refine (HP.out).mono ?_); rintro e w1 ⟨a1, c1, rfl, hown1, hb1⟩; have hB1 := hb0.trans (hb1.mono hb0.size); have hr2 := hr1.belowN hb1; have ht2 := ht1.belowN hb1))
    | (go_at_call 58; go_must ((with_reducible refine (HX.out _ _ _ hown1.at_ (fun _ q hq => ⟨fun e => by have := (hown1.blk q hq).1; simp at this; omega, fun e => by have h1 := (hown1.blk q hq).1; have h2 := HT.out q e; simp at h1; omega⟩) hr2 ht2).mono ?_); rintro e w2 ⟨rfl, hown3, hown4, hT⟩)))
  go_ret2
  exact ⟨rfl, hown3, hown4, (Turned.ofBelow hB1).trans hT (fun q hq => .inl hq)⟩
set_option maxHeartbeats 800000 in
theorem Record_bad (regs : Int) (a : Option Addr) (c : Nat) (l : List OpD) (ra : Option Addr) (rn rc : Nat) (ta : Option Addr) (tn tc : Nat) (w : World) (h : At w a l) (hl : l.length ≤ 1000000) (hrn : rn ≤ 1000000) (htn : tn ≤ 1000000) (hc : readyS regs l rn tn ≠ 0) :
    Calls Try.prog 25 #[.agg #[.int .i64 regs, .slice a l.length c], .slice ra rn rc, .slice ta tn tc] w fun e w' => e = .returned (.tuple #[.int .i64 0, .int .i64 (readyS regs l rn tn)]) ∧ Below w.heap.size w w' := by
  have hb0 := below_new12 w (.cells #[.int .i64 regs, .slice a l.length c] 24)
  have HP := hide (ready_err regs a c l ra rn rc ta tn tc _ (h.belowN hb0) hl hrn htn hc)
  obtain ⟨E, hE⟩ : ∃ E, E = readyS regs l rn tn := ⟨_, rfl⟩
  rw [← hE] at HP hc ⊢
  have e1 : (E == 0) = false := by simpa using hc
  have e2 : (E != 0) = true := by simpa using hc
  clear hE hc
  go_enter Try.func25, Try.ntmps25
  go_wp2_with (go_at_call 57; ((with_reducible refine (HP.out).mono ?_); rintro e w1 ⟨rfl, hb1⟩; have hB1 := hb0.trans (hb1.mono hb0.size)))
  go_ret2
  exact ⟨rfl, hB1⟩
theorem Record_calls (regs : Int) (a : Option Addr) (c : Nat) (l : List OpD) (ra : Option Addr) (rc : Nat) (r : List UInt64) (Br : Nat) (ta : Option Addr) (tc : Nat) (t : List UInt64) (Bt : Nat) (w : World) (h : At w a l) (hl : l.length ≤ 1000000) (hr : Own w Br 37 ra rc r) (ht : Own w Bt 37 ta tc t)
    (hrl : r.length ≤ 1000000) (htl : t.length ≤ 1000000) (hne : ∀ q, ra.map (·.block) = some q → ta.map (·.block) ≠ some q) :
    Calls Try.prog 25 #[.agg #[.int .i64 regs, .slice a l.length c], .slice ra r.length rc, .slice ta t.length tc] w fun e w' => e = .returned (.tuple #[.int .i64 (recN regs l r.length t.length), .int .i64 (readyS regs l r.length t.length)]) ∧ Own w' Br 37 ra rc (recR regs l r t) ∧ Own w' Bt 37 ta tc (recT regs l r t) ∧ Turned (blkL ra ++ blkL ta) w w' := by
  by_cases hc : readyS regs l r.length t.length = 0
  · rw [hc]
    obtain ⟨f, rfl, g, hn, hu⟩ := ready_good hc
    obtain ⟨e1, e2, e3, _⟩ := rec_good g hn hu
    rw [e1, e2, e3]
    obtain ⟨gr, rfl, _⟩ := hr.some_ (by intro e; rw [e] at hn; have := g.r1; simp at hn; omega)
    exact Record_good regs a c f g gr rc r Br ta tc t Bt w h hr ht htl hn hu (hne gr rfl)
  · obtain ⟨e1, e2, e3, _⟩ := rec_bad hc
    rw [e1, e2, e3]
    refine (Record_bad regs a c l ra r.length rc ta t.length tc w h hl hrl htl hc).mono ?_
    rintro e w' ⟨rfl, hb⟩
    exact ⟨rfl, hr.belowN hb, ht.belowN hb, Turned.ofBelow hb⟩
set_option maxRecDepth 100000 in
set_option maxHeartbeats 1600000 in
theorem Undo_good (regs : Int) (a : Option Addr) (c : Nat) (f : Fo) (g : Good regs f) (gr rc : Nat) (r : List UInt64) (Br : Nat) (ta : Option Addr) (tc : Nat) (t : List UInt64) (w : World) (h : At w a f.flat) (hr : Own w Br 37 (some ⟨gr, 0, none⟩) rc r) (ht : At w ta t)
    (htl : t.length ≤ 1000000) (hn : (r.length : Int) = regs) (hu : f.unroll.length ≤ t.length) (htb : ∀ q, ta.map (·.block) = some q → q < w.heap.size) :
    Calls Try.prog 29 #[.agg #[.int .i64 regs, .slice a f.flat.length c], .slice (some ⟨gr, 0, none⟩) r.length rc, .slice ta t.length tc] w fun e w' => e = .returned (.int .i64 0) ∧ Own w' Br 37 (some ⟨gr, 0, none⟩) rc (undoR f.unroll t r) ∧ Turned [gr] w w' := by
  have hr64 : r.length ≤ 64 := by have := g.r2; omega
  have hrp : 1 ≤ r.length := by have := g.r1; omega
  have hl : f.flat.length ≤ 4096 := g.len
  have hul : f.unroll.length ≤ 65536 := by rw [Fo.unroll_length]; exact g.few
  have hgr := (hr.blk gr rfl).2
  have hb0 := below_new12 w (.cells #[.int .i64 regs, .slice a f.flat.length c] 24)
  have h1 := h.belowN hb0
  have HP := hide (ready_ok regs a c f g (some ⟨gr, 0, none⟩) r.length rc ta t.length tc _ h1 (by omega) htl hn hu)
  have HSZ := hide (fun w' (g : At w' a f.flat) => SizeW_calls a c f.flat w' g (by omega))
  rw [g.sizeW.1, g.sizeW.2] at HSZ
  have hr1 := hr.belowN hb0
  have ht1 := ht.belowN hb0
  have HX := hide fun ac cc g2 c2 B W hc hcb o1 o2 hneq => undo_calls regs f g ac cc g2 c2 ta tc B f.unroll.length r t W rfl hc hcb o1 hn o2 hu hneq
  have HT := hide htb
  have HUL := hide (undoR_length f.unroll t r)
  generalize f.unroll = U at *
  generalize f.bare.code 0 = code at *
  obtain ⟨nr, hnr⟩ : ∃ nr, nr = r.length := ⟨_, rfl⟩
  have HNR := hide hnr
  rw [← hnr] at HP hrp hr64 HUL HX ⊢
  clear g hn hu htb hnr
  go_enter Try.func29, Try.ntmps29
  go_wp2_with (first
    | (go_at_call 57; ((with_reducible refine (HP.out).mono ?_); rintro e w1 ⟨a1, c1, rfl, hown1, hb1⟩; have hB1 := hb0.trans (hb1.mono hb0.size); have hr2 := hr1.belowN hb1; have ht2 := ht1.belowN hb1; have h2 := h1.belowN hb1; have hbx := (Blk.new w 24 #[.int .i64 regs, .slice a f.flat.length c]).belowN hb1; obtain ⟨p0, p1, p2, p3⟩ := hbx.c2; have hz1 := hb1.size; simp at hz1))
    | (go_at_call 13; go_must ((with_reducible refine (HSZ.out _ h2).mono ?_); rintro e w2 ⟨rfl, hb2⟩; have hz2 := hb2.size; have hr3 := hr2.belowN hb2; have ht3 := ht2.belowN hb2; have hc3 := hown1.belowN hb2))
    | (at_make; refine wpList_mk tyU0 (B := w2.heap.size) (n := nr) rfl rfl rfl rfl rfl rfl (by omega) (by omega) ?_; intro w3 hown3 hg3)
    | (go_at_call 61; go_must ((with_reducible refine (HX.out _ _ _ _ _ _ hc5.at_ (fun _ q hq e => by have := (hc5.blk q hq).2; have h2 := (hc3.blk q hq).2; omega) hown4 ht5 (fun q hq e => by have := HT.out q hq; omega)).mono ?_); rintro e w5 ⟨rfl, hown5, hT5⟩; have hr6 := hr5.turned hT5 (fun q hq => by simp at hq; simp; omega); have hz5 := hT5.size))
    | (have hgd := hown5; refine wpList_copyIn Try.underlying25 (by kernel_rfl) rfl rfl rfl rfl HNR.out HUL.out.symm (by rw [HUL.out, ← HNR.out]; exact Nat.le_refl _) hr6 hown5.at_ ?_; intro w6 hown6 hg6)
    | (refine wpList_copyIn Try.underlying25 (by kernel_rfl) rfl rfl rfl rfl (by rw [List.length_replicate]) HNR.out (by rw [List.length_replicate, HNR.out]; exact Nat.le_refl _) hown3 ((hr3.grown hg3 (by simp)).at_) ?_; go_must (intro w4 hown4 hg4; have hz3 := hg3.size; have hz4 := hg4.size; have hd4 : (List.replicate nr (0 : UInt64)).drop r.length = [] := (by rw [List.drop_eq_nil_of_le]; rw [List.length_replicate, HNR.out]; exact Nat.le_refl _); rw [hd4, List.append_nil] at hown4; clear hd4; have hr5 := (hr3.grown hg3 (by simp)).grown hg4 (.inr (by simp; omega)); have ht5 := (ht3.grown hg3 (fun _ => .inr rfl)).grown hg4 (fun _ => .inl (fun e => by have := HT.out _ e; omega)); have hc5 := (hc3.belowN (below_of_grown hg3)).grown hg4 (.inr (fun e => by have := (hc3.blk _ e).2; omega)))))
  go_ret
  have hd : List.drop (undoR U t r).length r = [] := List.drop_eq_nil_of_le (by rw [HUL.out, HNR.out]; exact Nat.le_refl _)
  rw [hd, List.append_nil] at hown6
  have hT4 : Turned [] w w4 := Turned.ofBelow (Below.grown (Below.grown (hB1.trans (hb2.mono hB1.size)) hg3 (by omega) (fun k hk => by cases hk)) hg4 (by omega) (fun k hk => by injection hk with hk; omega))
  exact ⟨rfl, hown6, ((hT4.mono (F' := [gr]) (fun q hq => by cases hq)).trans hT5 (fun q hq => .inr (by simp at hq; omega))).trans (Turned.ofGrown (F := [gr]) hg6 (fun q hq => .inl (by injection hq with hq; simp [hq]))) (fun q hq => .inl hq)⟩
set_option maxHeartbeats 800000 in
theorem Undo_bad (regs : Int) (a : Option Addr) (c : Nat) (l : List OpD) (ra : Option Addr) (rn rc : Nat) (ta : Option Addr) (tn tc : Nat) (w : World) (h : At w a l) (hl : l.length ≤ 1000000) (hrn : rn ≤ 1000000) (htn : tn ≤ 1000000) (hc : readyS regs l rn tn ≠ 0) :
    Calls Try.prog 29 #[.agg #[.int .i64 regs, .slice a l.length c], .slice ra rn rc, .slice ta tn tc] w fun e w' => e = .returned (.int .i64 (readyS regs l rn tn)) ∧ Below w.heap.size w w' := by
  have hb0 := below_new12 w (.cells #[.int .i64 regs, .slice a l.length c] 24)
  have HP := hide (ready_err regs a c l ra rn rc ta tn tc _ (h.belowN hb0) hl hrn htn hc)
  obtain ⟨E, hE⟩ : ∃ E, E = readyS regs l rn tn := ⟨_, rfl⟩
  rw [← hE] at HP hc ⊢
  have e1 : (E == 0) = false := by simpa using hc
  have e2 : (E != 0) = true := by simpa using hc
  clear hE hc
  go_enter Try.func29, Try.ntmps29
  go_wp2_with (go_at_call 57; ((with_reducible refine (HP.out).mono ?_); rintro e w1 ⟨rfl, hb1⟩; have hB1 := hb0.trans (hb1.mono hb0.size)))
  go_ret
  exact ⟨rfl, hB1⟩
theorem Undo_calls (regs : Int) (a : Option Addr) (c : Nat) (l : List OpD) (ra : Option Addr) (rc : Nat) (r : List UInt64) (Br : Nat) (ta : Option Addr) (tc : Nat) (t : List UInt64) (w : World) (h : At w a l) (hl : l.length ≤ 1000000) (hr : Own w Br 37 ra rc r) (ht : At w ta t)
    (hrl : r.length ≤ 1000000) (htl : t.length ≤ 1000000) (htb : ∀ q, ta.map (·.block) = some q → q < w.heap.size) :
    Calls Try.prog 29 #[.agg #[.int .i64 regs, .slice a l.length c], .slice ra r.length rc, .slice ta t.length tc] w fun e w' => e = .returned (.int .i64 (readyS regs l r.length t.length)) ∧ Own w' Br 37 ra rc (undS regs l r t) ∧ Turned (blkL ra) w w' := by
  by_cases hc : readyS regs l r.length t.length = 0
  · rw [hc]
    obtain ⟨f, rfl, g, hn, hu⟩ := ready_good hc
    obtain ⟨_, _, _, e4⟩ := rec_good g hn hu
    rw [e4]
    obtain ⟨gr, rfl, _⟩ := hr.some_ (by intro e; rw [e] at hn; have := g.r1; simp at hn; omega)
    exact Undo_good regs a c f g gr rc r Br ta tc t w h hr ht htl hn hu htb
  · obtain ⟨_, _, _, e4⟩ := rec_bad hc
    rw [e4]
    refine (Undo_bad regs a c l ra r.length rc ta t.length tc w h hl hrl htl hc).mono ?_
    rintro e w' ⟨rfl, hb⟩
    exact ⟨rfl, hr.belowN hb, Turned.ofBelow hb⟩
end Go.Proofs.Ytjfpnbnkfcgjcaa
