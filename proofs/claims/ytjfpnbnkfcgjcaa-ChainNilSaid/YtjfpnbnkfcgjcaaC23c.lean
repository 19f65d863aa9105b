/- Chapter 23: a chain in memory; New. -/
import Derived.Test.YtjfpnbnkfcgjcaaC23b
namespace Go.Proofs.Ytjfpnbnkfcgjcaa
set_option linter.unusedVariables false
set_option linter.unusedSimpArgs false
open Go.RowKit
/-- a chain that lies somewhere -/
def ChAt (w : World) (g : Nat) (c : ChD) : Prop :=
  ∃ (a b ta : Option Addr) (ca cb tc : Nat), Blk w g 116 #[.int .i64 c.p.regs, .slice a c.p.l.length ca, .int .i64 c.q.regs, .slice b c.q.l.length cb, .int .i64 c.x, .slice ta c.th.length tc] ∧ At w a c.p.l ∧ At w b c.q.l ∧ At w ta c.th ∧ c.th.length ≤ tc
theorem ChAt.belowN {w w' : World} {g : Nat} {c : ChD} (h : ChAt w g c) (hb : Below w.heap.size w w') : ChAt w' g c := by
  obtain ⟨a, b, ta, ca, cb, tc, h0, h1, h2, h3, h4⟩ := h
  exact ⟨a, b, ta, ca, cb, tc, h0.belowN hb, h1.belowN hb, h2.belowN hb, h3.belowN hb, h4⟩
theorem ChAt.lt {w : World} {g : Nat} {c : ChD} (h : ChAt w g c) : g < w.heap.size := by
  obtain ⟨a, b, ta, ca, cb, tc, h0, _⟩ := h
  exact h0.lt
theorem May_calls (g : Nat) (c : ChD) (t : Int) (a : Option Addr) (n k : Nat) (w : World) (h : ChAt w g c) (hn : n ≤ 1000000) (E : Int) (hE : c.may t n = E) :
    Calls Try.prog 69 #[.pointer (some ⟨g, 0, none⟩), .int .i64 t, .slice a n k] w fun e w' => e = .returned (.int .i64 E) ∧ w = w' := by
  obtain ⟨a1, b1, ta, ca, cb, tc, h0, h1, h2, h3, h4⟩ := h
  have x0 := h0.cell_ (i := 4) (v := .int .i64 c.x) rfl
  unfold ChD.may at hE
  by_cases ht : t < 0 ∨ 65536 ≤ t
  · rw [if_pos ht] at hE
    subst hE
    rcases ht with ht | ht
    · go_enter Try.func69, Try.ntmps69
      go_wp2
      go_ret
      exact ⟨rfl, rfl⟩
    · have hq : ¬ (t < 0) := by omega
      go_enter Try.func69, Try.ntmps69
      go_wp2
      go_ret
      exact ⟨rfl, rfl⟩
  · rw [if_neg ht] at hE
    have ht1 : ¬ (t < 0) := by omega
    have ht2 : ¬ (65536 ≤ t) := by omega
    have ht3 : ¬ (t ≥ 65536) := by omega
    by_cases hx : (n : Int) = c.x
    · rw [if_neg (by simpa using hx)] at hE
      subst hE
      have e1 : ((n : Int) != c.x) = false := by simpa using hx
      have e2 : ((n : Int) == c.x) = true := by simpa using hx
      clear hx
      go_enter Try.func69, Try.ntmps69
      go_wp2
      go_ret
      exact ⟨rfl, rfl⟩
    · rw [if_pos hx] at hE
      subst hE
      have e1 : ((n : Int) != c.x) = true := by simpa using hx
      have e2 : ((n : Int) == c.x) = false := by simpa using hx
      clear hx
      go_enter Try.func69, Try.ntmps69
      go_wp2
      go_ret
      exact ⟨rfl, rfl⟩
theorem results_row_one {P : Program} {fn : Func} {p : Tmp} {ty : TypeId} (h : fn.results = #[.cell p ty]) (tmps : Array Value) (w : World) (g : Nat) (t : TypeId) (cs : Array Value) (fr : Nat × Nat) (d : TypeDesc)
    (hp : tmps.getD p undef = .pointer (some ⟨g, 0, none⟩)) (hg : w.heap[g]? = some (.cells cs t fr)) (hu : P.underlying ty = some d) (hd : (match d with | .struct _ | .array _ _ => true | _ => false) = true) (hi : (P.info? ty).map (·.size) = some cs.size) :
    (results fn tmps).run P w = .ok (.agg cs) w := by
  have hp' : tmps[p]?.getD undef = .pointer (some ⟨g, 0, none⟩) := by simpa using hp
  simp only [results, h]
  simp [Sem.run_bind, hp', asAddr, run_loadVar_row w g t ty cs fr d hg hu hd hi, Result.andThen]
set_option maxHeartbeats 1600000 in
theorem New1_calls (p : PrD) (w : World) (h : At w p.a p.l) (hl : p.l.length ≤ 1000000) :
    Calls Try.prog 106 #[.agg #[.int .i64 p.regs, .slice p.a p.l.length p.c]] w fun e w' => ∃ a' c', e = .returned (.agg #[.int .i64 p.regs, .slice a' p.l.length c']) ∧ Own w' w.heap.size 59 a' c' p.l ∧ Below w.heap.size w w' := by
  have hb0 := (below_new w (.cells #[.int .i64 p.regs, .slice p.a p.l.length p.c] 24)).alloc (by simp) (.cells #[.int .i64 0, .slice none 0 0] 24)
  have hX := (Blk.new w 24 #[.int .i64 p.regs, .slice p.a p.l.length p.c]).alloc (.cells #[.int .i64 0, .slice none 0 0] 24)
  have hF := Blk.new (w.alloc (.cells #[.int .i64 p.regs, .slice p.a p.l.length p.c] 24)) 24 #[.int .i64 0, .slice none 0 0]
  simp only [World.size_alloc] at hF
  have h1 := h.belowN hb0
  go_enter Try.func106, Try.ntmps106
  go_wp2
  obtain ⟨w0, hw0⟩ : ∃ w0, w0 = (w.alloc (.cells #[.int .i64 p.regs, .slice p.a p.l.length p.c] 24)).alloc (.cells #[.int .i64 0, .slice none 0 0] 24) := ⟨_, rfl⟩
  rw [← hw0] at hb0 hX hF h1 ⊢
  have hz0 : w0.heap.size = w.heap.size + 2 := by rw [hw0]; simp
  clear hw0
  obtain ⟨p0, p1, p2, p3⟩ := hX.c2
  obtain ⟨q0, q1, q2, q3⟩ := hF.c2
  have hd0 := Below.drew (Below.refl w0.heap.size w0)
  have h2 := h1.belowN hd0
  go_region_held3 (fun w' => w'.cell? ⟨w.heap.size, 0, none⟩ = some (.int .i64 p.regs) ∧ w'.cell? ⟨w.heap.size, 1, none⟩ = some (.slice p.a p.l.length p.c)) (go_keep)
    ((go_at_call 107; go_must (refine (CloneO_calls _ _ _ p.l _ rfl h2 (by omega)).mono ?_; rintro e w1 ⟨a1, c1, rfl, hown1, hb1⟩; have hB1 := hd0.trans (hb1.mono hd0.size); obtain ⟨r0, r1, r2, r3⟩ := (hX.belowN hB1).c2; have hF1 := hF.belowN hB1; obtain ⟨s0, s1, s2, s3⟩ := hF1.c2)))
  have hF2 := ((hF1.set_ 0 (.int .i64 p.regs)).set_ 1 (.slice a1 p.l.length c1))
  try go_wp2
  try simp only [Exit.then, Exit.inBlock]
  have hB9 := hb0.trans (hB1.mono hb0.size)
  have hz9 := hB1.size
  refine bodyPost_ret (results_row_one rfl _ _ (w.heap.size + 1) _ #[.int .i64 p.regs, .slice a1 p.l.length c1] (0, 0) _ rfl hF2 Try.underlying24 rfl (by kernel_rfl)) rfl ⟨a1, c1, rfl, ?_, ?_⟩
  · have h9 : w.heap.size + 1 < w0.drew.heap.size := by show w.heap.size + 1 < w0.heap.size; omega
    exact ((hown1.setCell (p := ⟨w.heap.size + 1, 0, none⟩) h9 _).setCell (p := ⟨w.heap.size + 1, 1, none⟩) h9 _).mono (by show w.heap.size ≤ w0.heap.size; omega)
  · exact (hB9.setCell (p := ⟨w.heap.size + 1, 0, none⟩) (by simp) _).setCell (p := ⟨w.heap.size + 1, 1, none⟩) (by simp) _
theorem NewBad_calls (c : ChD) (a : Option Addr) (k : Nat) (w : World) (h : At w c.p.a c.p.l) (hl : c.p.l.length ≤ 1000000) (h' : At w c.q.a c.q.l) (hl' : c.q.l.length ≤ 1000000) (hx : -9223372036854775808 ≤ c.x ∧ c.x ≤ 9223372036854775807) (hn : c.th.length ≤ 1000000) (E : Int) (hE : c.bad = E) (h0 : E ≠ 0) :
    Calls Try.prog 76 #[.agg #[.int .i64 c.p.regs, .slice c.p.a c.p.l.length c.p.c], .agg #[.int .i64 c.q.regs, .slice c.q.a c.q.l.length c.q.c], .int .i64 c.x, .slice a c.th.length k] w fun e w' => e = .returned (.tuple #[.pointer none, .int .i64 E]) ∧ Below w.heap.size w w' := by
  have hb0 : Below w.heap.size w ((w.alloc (.cells #[.int .i64 c.p.regs, .slice c.p.a c.p.l.length c.p.c] 24)).alloc (.cells #[.int .i64 c.q.regs, .slice c.q.a c.q.l.length c.q.c] 24)) := ((below_new _ _).alloc (by simp) _)
  have hX := (Blk.new w 24 #[.int .i64 c.p.regs, .slice c.p.a c.p.l.length c.p.c]).alloc (.cells #[.int .i64 c.q.regs, .slice c.q.a c.q.l.length c.q.c] 24)
  have hY := Blk.new (w.alloc (.cells #[.int .i64 c.p.regs, .slice c.p.a c.p.l.length c.p.c] 24)) 24 #[.int .i64 c.q.regs, .slice c.q.a c.q.l.length c.q.c]
  simp only [World.size_alloc] at hY
  have h1 := h.belowN hb0
  have h2 := h'.belowN hb0
  obtain ⟨P, hP⟩ : ∃ P, pairS c.p c.q = P := ⟨_, rfl⟩
  unfold ChD.bad at hE
  rw [hP] at hE
  have HP := hide hP
  by_cases hP0 : P = 0
  · subst hP0
    rw [if_neg (by simp)] at hE
    have e1 : (E == 0) = false := by simpa using h0
    have e2 : (E != 0) = true := by simpa using h0
    have HD := hide (fun w => hE ▸ Dims_calls c.p c.q c.x (c.th.length : Int) hx (by omega) w)
    clear hE hP h0
    go_enter Try.func76, Try.ntmps76
    go_wp2_with (first
      | (go_at_call 104; go_must ((with_reducible refine (Pair_calls c.p c.q _ h1 hl h2 hl' 0 HP.out).mono ?_); rintro e w1 ⟨rfl, hb1⟩; have hB1 := hb0.trans (hb1.mono hb0.size); have hz1 := hB1.size; obtain ⟨p0, p1, p2, p3⟩ := (hX.belowN hb1).c2; obtain ⟨q0, q1, q2, q3⟩ := (hY.belowN hb1).c2))
      | (go_at_call 105; go_must ((with_reducible refine (HD.out _).mono ?_); rintro e w2 ⟨rfl, hb2⟩)))
    go_ret2
    exact ⟨rfl, hB1.trans (hb2.mono hz1)⟩
  · rw [if_pos hP0] at hE
    subst hE
    have e1 : (P == 0) = false := by simpa using hP0
    have e2 : (P != 0) = true := by simpa using hP0
    clear hP hP0 h0
    go_enter Try.func76, Try.ntmps76
    go_wp2_with (go_at_call 104; go_must ((with_reducible refine (Pair_calls c.p c.q _ h1 hl h2 hl' P HP.out).mono ?_); rintro e w1 ⟨rfl, hb1⟩; have hB1 := hb0.trans (hb1.mono hb0.size)))
    go_ret2
    exact ⟨rfl, hB1⟩
set_option maxRecDepth 100000 in
set_option maxHeartbeats 3200000 in
theorem NewGood_calls (c : ChD) (a : Option Addr) (k : Nat) (w : World) (h : At w c.p.a c.p.l) (hl : c.p.l.length ≤ 1000000) (h' : At w c.q.a c.q.l) (hl' : c.q.l.length ≤ 1000000) (h3 : At w a c.th) (hx : -9223372036854775808 ≤ c.x ∧ c.x ≤ 9223372036854775807) (hn : c.th.length ≤ 1000000) (hE : c.bad = 0) :
    Calls Try.prog 76 #[.agg #[.int .i64 c.p.regs, .slice c.p.a c.p.l.length c.p.c], .agg #[.int .i64 c.q.regs, .slice c.q.a c.q.l.length c.q.c], .int .i64 c.x, .slice a c.th.length k] w fun e w' => ∃ g, e = .returned (.tuple #[.pointer (some ⟨g, 0, none⟩), .int .i64 0]) ∧ ChAt w' g c ∧ w.heap.size ≤ g ∧ Below w.heap.size w w' := by
  have hb0 : Below w.heap.size w ((w.alloc (.cells #[.int .i64 c.p.regs, .slice c.p.a c.p.l.length c.p.c] 24)).alloc (.cells #[.int .i64 c.q.regs, .slice c.q.a c.q.l.length c.q.c] 24)) := ((below_new _ _).alloc (by simp) _)
  have hX := (Blk.new w 24 #[.int .i64 c.p.regs, .slice c.p.a c.p.l.length c.p.c]).alloc (.cells #[.int .i64 c.q.regs, .slice c.q.a c.q.l.length c.q.c] 24)
  have hY := Blk.new (w.alloc (.cells #[.int .i64 c.p.regs, .slice c.p.a c.p.l.length c.p.c] 24)) 24 #[.int .i64 c.q.regs, .slice c.q.a c.q.l.length c.q.c]
  simp only [World.size_alloc] at hY
  have h1 := h.belowN hb0
  have h2 := h'.belowN hb0
  have h4 := h3.belowN hb0
  have hP : pairS c.p c.q = 0 := by
    refine Classical.byContradiction fun hn => ?_
    unfold ChD.bad at hE
    rw [if_pos hn] at hE
    exact hn hE
  unfold ChD.bad at hE
  rw [if_neg (by simpa using hP)] at hE
  have HP := hide hP
  have HD := hide (fun w => hE ▸ Dims_calls c.p c.q c.x (c.th.length : Int) hx (by omega) w)
  clear hE hP
  go_enter Try.func76, Try.ntmps76
  go_wp2_with (first
    | (go_at_call 104; go_must ((with_reducible refine (Pair_calls c.p c.q _ h1 hl h2 hl' 0 HP.out).mono ?_); rintro e w1 ⟨rfl, hb1⟩; have hB1 := hb0.trans (hb1.mono hb0.size); have hz1 := hB1.size; obtain ⟨p0, p1, p2, p3⟩ := (hX.belowN hb1).c2; obtain ⟨q0, q1, q2, q3⟩ := (hY.belowN hb1).c2))
    | (go_at_call 105; go_must ((with_reducible refine (HD.out _).mono ?_); rintro e w2 ⟨rfl, hb2⟩; have hb3 := hb1.trans (hb2.mono hb1.size); obtain ⟨r0, r1, r2, r3⟩ := (hX.belowN hb3).c2; obtain ⟨s0, s1, s2, s3⟩ := (hY.belowN hb3).c2)))
  have hX2 := hX.belowN hb3
  have hY2 := hY.belowN hb3
  have hP2 := h1.belowN hb3
  have hQ2 := h2.belowN hb3
  have hT2 := h4.belowN hb3
  have hB3 := hb0.trans (hb3.mono hb0.size)
  have hz3 := hB3.size
  have hB := Below.drew (Below.refl w2.heap.size w2)
  clear hX hY h1 h2 h4 h h' h3 hb0 hb1 hb2 hb3 hB1 hz1 p0 p1 p2 p3 q0 q1 q2 q3
  go_region_held3 (fun w' => w'.cell? ⟨w.heap.size, 0, none⟩ = some (.int .i64 c.p.regs) ∧ w'.cell? ⟨w.heap.size, 1, none⟩ = some (.slice c.p.a c.p.l.length c.p.c) ∧ w'.cell? ⟨w.heap.size + 1, 0, none⟩ = some (.int .i64 c.q.regs) ∧ w'.cell? ⟨w.heap.size + 1, 1, none⟩ = some (.slice c.q.a c.q.l.length c.q.c)) (go_keep)
    (first
      | (go_at_call 106; refine (New1_calls c.p _ (hP2.belowN hB) hl).mono ?_; rintro e wx ⟨aP, cP, rfl, hoP, hb⟩; have hB := hB.trans (hb.mono hB.size); (try have hoQ := hoQ.belowN hb); (try have hoT := hoT.belowN hb); obtain ⟨x0, x1, x2, x3⟩ := (hX2.belowN hB).c2; obtain ⟨y0, y1, y2, y3⟩ := (hY2.belowN hB).c2)
      | (go_at_call 106; refine (New1_calls c.q _ (hQ2.belowN hB) hl').mono ?_; rintro e wx ⟨aQ, cQ, rfl, hoQ, hb⟩; have hB := hB.trans (hb.mono hB.size); (try have hoP := hoP.belowN hb); (try have hoT := hoT.belowN hb); obtain ⟨x0, x1, x2, x3⟩ := (hX2.belowN hB).c2; obtain ⟨y0, y1, y2, y3⟩ := (hY2.belowN hB).c2)
      | (go_at_call 44; refine (CloneU_calls _ _ _ c.th _ rfl (hT2.belowN hB) (by omega)).mono ?_; rintro e wx ⟨aT, cT, rfl, hoT, hb⟩; have hB := hB.trans (hb.mono hB.size); (try have hoP := hoP.belowN hb); (try have hoQ := hoQ.belowN hb); obtain ⟨x0, x1, x2, x3⟩ := (hX2.belowN hB).c2; obtain ⟨y0, y1, y2, y3⟩ := (hY2.belowN hB).c2))
  have hN := below_new wx (.cells #[.int .i64 c.p.regs, .slice aP c.p.l.length cP, .int .i64 c.q.regs, .slice aQ c.q.l.length cQ, .int .i64 c.x, .slice aT c.th.length cT] 116)
  have hBx := hB3.trans (hB.mono hz3)
  have hzx := hBx.size
  go_wp2
  go_ret2
  exact ⟨wx.heap.size, rfl, ⟨aP, aQ, aT, cP, cQ, cT, Blk.new wx _ _, hoP.at_.belowN hN, hoQ.at_.belowN hN, hoT.at_.belowN hN, hoT.cap.1⟩, hzx, hBx.trans (hN.mono hzx)⟩
end Go.Proofs.Ytjfpnbnkfcgjcaa
