/- Chapter 17: the document's Pack, whole; Same; what must come at any rate. -/
import Derived.Test.YthncfoompoheoaaW17i
import Derived.Test.YthncfoompoheoaaW17e
import Derived.Test.YthncfoompoheoaaQb
namespace Go.Proofs.Ythncfoompoheoaa
set_option linter.unusedVariables false
set_option linter.unusedSimpArgs false
open Go.RowKit
set_option maxRecDepth 100000 in
set_option maxHeartbeats 6400000 in
theorem rpack_bad (regs : Int) (a : Option Addr) (c ln : Nat) (l : List OpD) (hln : ln = l.length) (keep : Int) (w : World) (h : At w a l) (hl : ln ≤ 1000000) (E : Int) (hE : packE regs l keep = E) (hE0 : E ≠ 0) :
    Calls Try.prog 52 #[.agg #[.int .i64 regs, .slice a ln c], .int .i64 keep] w (PackOut E [] [] w) := by
  have hb0 := (below_new12 w (.cells #[.int .i64 regs, .slice a ln c] 24)).alloc (by simp) (.cells #[.int .i64 0, .slice none 0 0] 24)
  have hX := (Blk.new w 24 #[.int .i64 regs, .slice a ln c]).alloc (.cells #[.int .i64 0, .slice none 0 0] 24)
  have hR := Blk.new (w.alloc (.cells #[.int .i64 regs, .slice a ln c] 24)) 24 #[.int .i64 0, .slice none 0 0]
  simp only [World.size_alloc] at hR
  have h1 := h.belowN hb0
  subst hln
  have HP := hide (Prog10_calls regs a c l _ h1 hl)
  unfold packE at hE
  by_cases hc : checkS regs l = 0
  · rw [if_neg (by rw [hc]; simp)] at hE
    rw [hc] at HP
    have hk : keep < 1 ∨ regs < keep := by
      by_cases hk : keep < 1 ∨ regs < keep
      · exact hk
      · rw [if_neg hk] at hE; exact absurd hE.symm hE0
    rw [if_pos hk] at hE
    subst hE
    clear hc hE0
    have hkk : keep < 1 ∨ (¬ keep < 1 ∧ regs < keep) := by omega
    rcases hkk with k1 | ⟨k1, k2⟩
    · go_enter Try.func52, Try.ntmps52
      go_wp2_with (go_at_call 63; go_must ((with_reducible refine (HP.out).mono ?_); rintro e w1 ⟨rfl, hb1⟩; have hB1 := hb0.trans (hb1.mono hb0.size); have hR2 := hR.belowN hb1; obtain ⟨p0, p1, p2, p3⟩ := (hX.belowN hb1).c2; obtain ⟨r0, r1, r2, r3⟩ := hR2.c2))
      try simp only [Exit.then, Exit.inBlock]
      try rw [Exit.noGoto_ret]
      have hF6 := (hR2.set_ 0 (.int .i64 0)).set_ 1 (.slice none 0 0)
      refine bodyPost_ret (results_row_tmp2 rfl _ _ (w.heap.size + 1) _ #[.int .i64 0, .slice none 0 0] (0, 0) _ rfl hF6 Try.underlying24 rfl (by kernel_rfl)) rfl ?_
      exact ⟨none, 0, 0, none, 0, 0, rfl, rfl, rfl, Own.none _ _ _, Own.none _ _ _, ((hB1.setCell (p := ⟨w.heap.size + 1, 0, none⟩) (Nat.le_succ _) _).setCell (p := ⟨w.heap.size + 1, 1, none⟩) (Nat.le_succ _) _)⟩
    · have k3 : 1 ≤ keep := by omega
      have k4 : decide (keep > regs) = true := decide_eq_true (by omega)
      have k5 : decide (regs < keep) = true := decide_eq_true (by omega)
      go_enter Try.func52, Try.ntmps52
      go_wp2_with (go_at_call 63; go_must ((with_reducible refine (HP.out).mono ?_); rintro e w1 ⟨rfl, hb1⟩; have hB1 := hb0.trans (hb1.mono hb0.size); have hR2 := hR.belowN hb1; obtain ⟨p0, p1, p2, p3⟩ := (hX.belowN hb1).c2; obtain ⟨r0, r1, r2, r3⟩ := hR2.c2))
      try simp only [Exit.then, Exit.inBlock]
      try rw [Exit.noGoto_ret]
      have hF6 := (hR2.set_ 0 (.int .i64 0)).set_ 1 (.slice none 0 0)
      refine bodyPost_ret (results_row_tmp2 rfl _ _ (w.heap.size + 1) _ #[.int .i64 0, .slice none 0 0] (0, 0) _ rfl hF6 Try.underlying24 rfl (by kernel_rfl)) rfl ?_
      exact ⟨none, 0, 0, none, 0, 0, rfl, rfl, rfl, Own.none _ _ _, Own.none _ _ _, ((hB1.setCell (p := ⟨w.heap.size + 1, 0, none⟩) (Nat.le_succ _) _).setCell (p := ⟨w.heap.size + 1, 1, none⟩) (Nat.le_succ _) _)⟩
  · rw [if_pos hc] at hE
    rw [hE] at HP
    have e2 : (E == 0) = false := by simpa using hE0
    have e3 : (E != 0) = true := by simpa using hE0
    clear hc hE hE0
    go_enter Try.func52, Try.ntmps52
    go_wp2_with (go_at_call 63; go_must ((with_reducible refine (HP.out).mono ?_); rintro e w1 ⟨rfl, hb1⟩; have hB1 := hb0.trans (hb1.mono hb0.size); have hR2 := hR.belowN hb1; obtain ⟨r0, r1, r2, r3⟩ := hR2.c2))
    try simp only [Exit.then, Exit.inBlock]
    try rw [Exit.noGoto_ret]
    have hF6 := (hR2.set_ 0 (.int .i64 0)).set_ 1 (.slice none 0 0)
    refine bodyPost_ret (results_row_tmp2 rfl _ _ (w.heap.size + 1) _ #[.int .i64 0, .slice none 0 0] (0, 0) _ rfl hF6 Try.underlying24 rfl (by kernel_rfl)) rfl ?_
    exact ⟨none, 0, 0, none, 0, 0, rfl, rfl, rfl, Own.none _ _ _, Own.none _ _ _, ((hB1.setCell (p := ⟨w.heap.size + 1, 0, none⟩) (Nat.le_succ _) _).setCell (p := ⟨w.heap.size + 1, 1, none⟩) (Nat.le_succ _) _)⟩
theorem RPack_calls (regs : Int) (a : Option Addr) (c ln : Nat) (l : List OpD) (hln : ln = l.length) (keep : Int) (w : World) (h : At w a l) (hl : ln ≤ 1000000) (E : Int) (W : List Int) (L : List OpD) (hE : packE regs l keep = E) (hW : packW regs l keep = W) (hL : packL regs l keep = L) :
    Calls Try.prog 52 #[.agg #[.int .i64 regs, .slice a ln c], .int .i64 keep] w (PackOut E W L w) := by
  unfold packW at hW
  unfold packL at hL
  rw [hE] at hW hL
  by_cases hE0 : E = 0
  · rw [if_pos hE0] at hW hL
    subst hE0 hW hL
    obtain ⟨f, rfl, g, h1, h2⟩ := packE_good hE
    exact rpack_good regs a c ln f hln keep g h1 h2 w h
  · rw [if_neg hE0] at hW hL
    subst hW hL
    exact rpack_bad regs a c ln l hln keep w h hl E hE hE0
set_option maxRecDepth 100000 in
set_option maxHeartbeats 1600000 in
theorem Same17_calls (R : Int) (a b : Option Addr) (ca cb n m : Nat) (l : List OpD) (hn : n = l.length) (hm : m = l.length) (w : World) (h0 : At w a l) (h1 : At w b l) (hl : n ≤ 1000000) :
    Calls Try.prog 50 #[.agg #[.int .i64 R, .slice a n ca], .agg #[.int .i64 R, .slice b m cb]] w fun e w' => e = .returned (.bool true) ∧ Below w.heap.size w w' := by
  have hb0 := (below_new12 w (.cells #[.int .i64 R, .slice a n ca] 24)).alloc (by simp) (.cells #[.int .i64 R, .slice b m cb] 24)
  have HO := hide (fun (W : World) (k0 : At W a l) (k1 : At W b l) => Ops8N a b n m ca cb l W hn hm k0 k1 (by omega))
  have g0 := h0.belowN hb0
  have g1 := h1.belowN hb0
  clear hn hm
  go_enter Try.func50, Try.ntmps50
  go_wp2_with (go_at_call 97; go_must ((with_reducible refine (HO.out _ g0 g1).mono ?_); rintro e w2 ⟨rfl, q2, rfl⟩))
  go_ret
  exact ⟨rfl, below_drewN hb0 _⟩
def ex17 : Fo := .rep ⟨7, 0, 0, 0, 1⟩ (.leaf ⟨4, 0, 0, 0, 0⟩ (.leaf ⟨5, 3, 0, 0, 0⟩ .nil)) ⟨0, 0, 0, 0, 0⟩ .nil
def ex17s : Fo := .rep ⟨7, 0, 0, 0, 1⟩ (.leaf ⟨4, 0, 0, 0, 0⟩ .nil) ⟨0, 0, 0, 0, 0⟩ .nil
def ex17n : Fo := .leaf ⟨4, 0, 0, 0, 0⟩ .nil
theorem ex17_good : Good 4 ex17 := good_of_lit (by simp [ex17, Fo.ok]) (by decide)
theorem ex17s_good : Good 4 ex17s := good_of_lit (by simp [ex17s, Fo.ok]) (by decide)
theorem ex17n_good : Good 4 ex17n := good_of_lit (by simp [ex17n, Fo.ok]) (by decide)
theorem ex17_tidy : liveE 4 ex17.flat [0] = 0 ∧ tidyL 4 ex17.flat [0] = [⟨4, 0, 0, 0, 0⟩] := by
  obtain ⟨h0, h1, h2, h3⟩ := live_good ex17_good (outs := [0]) (by decide)
  refine ⟨h0, ?_⟩
  unfold tidyL
  rw [if_pos h0]
  have e : siftL 4 ex17.flat [0] = ex17s.flat := by
    unfold siftL
    rw [if_pos h0, h1]
    decide
  rw [e]
  unfold openL
  rw [if_pos ex17s_good.check, fo_flat ex17s_good.ok]
  decide
theorem ex17_pack : packE 4 [⟨4, 0, 0, 0, 0⟩] 1 = 0 ∧ packW 4 [⟨4, 0, 0, 0, 0⟩] 1 = [0] ∧ packL 4 [⟨4, 0, 0, 0, 0⟩] 1 = [⟨4, 0, 0, 0, 0⟩] := by
  have h0 : packE 4 [⟨4, 0, 0, 0, 0⟩] 1 = 0 := by
    have hc : checkS 4 [⟨4, 0, 0, 0, 0⟩] = 0 := ex17n_good.check
    unfold packE
    rw [hc]
    rfl
  refine ⟨h0, ?_, ?_⟩
  · unfold packW
    rw [if_pos h0]
    decide
  · unfold packL
    rw [if_pos h0]
    decide
set_option maxRecDepth 100000 in
set_option maxHeartbeats 3200000 in
theorem goes17_calls (w : World) : Calls Try.prog 43 #[] w fun e w' => e = .returned (.bool true) ∧ Below w.heap.size w w' := by
  have hx0 : At (w.alloc (.cells #[.int .i64 7, .int .i64 0, .int .i64 0, .int .i64 0, .int .u64 1, .int .i64 4, .int .i64 0, .int .i64 0, .int .i64 0, .int .u64 0, .int .i64 5, .int .i64 3, .int .i64 0, .int .i64 0, .int .u64 0, .int .i64 0, .int .i64 0, .int .i64 0, .int .i64 0, .int .u64 0] 99)) (some ⟨w.heap.size, 0, none⟩) ex17.flat := At.ofBlk (Blk.new w _ #[.int .i64 7, .int .i64 0, .int .i64 0, .int .i64 0, .int .u64 1, .int .i64 4, .int .i64 0, .int .i64 0, .int .i64 0, .int .u64 0, .int .i64 5, .int .i64 3, .int .i64 0, .int .i64 0, .int .u64 0, .int .i64 0, .int .i64 0, .int .i64 0, .int .i64 0, .int .u64 0]) ex17.flat rfl
  have hB0 := below_new12 w (.cells #[.int .i64 7, .int .i64 0, .int .i64 0, .int .i64 0, .int .u64 1, .int .i64 4, .int .i64 0, .int .i64 0, .int .i64 0, .int .u64 0, .int .i64 5, .int .i64 3, .int .i64 0, .int .i64 0, .int .u64 0, .int .i64 0, .int .i64 0, .int .i64 0, .int .i64 0, .int .u64 0] 99)
  obtain ⟨w0, hw0⟩ : ∃ w0, w0 = w.alloc (.cells #[.int .i64 7, .int .i64 0, .int .i64 0, .int .i64 0, .int .u64 1, .int .i64 4, .int .i64 0, .int .i64 0, .int .i64 0, .int .u64 0, .int .i64 5, .int .i64 3, .int .i64 0, .int .i64 0, .int .u64 0, .int .i64 0, .int .i64 0, .int .i64 0, .int .i64 0, .int .u64 0] 99) := ⟨_, rfl⟩
  have hz0 : w0.heap.size = w.heap.size + 1 := by rw [hw0]; simp
  rw [← hw0] at hx0 hB0
  have hx1 := hx0.belowN (below_new12 w0 (.cells #[.int .i64 4, .slice (some ⟨w.heap.size, 0, none⟩) 4 4] 24))
  have hB1 := hB0.trans ((below_new12 w0 (.cells #[.int .i64 4, .slice (some ⟨w.heap.size, 0, none⟩) 4 4] 24)).mono hB0.size)
  obtain ⟨w1, hw1⟩ : ∃ w1, w1 = w0.alloc (.cells #[.int .i64 4, .slice (some ⟨w.heap.size, 0, none⟩) 4 4] 24) := ⟨_, rfl⟩
  have hz01 : w1.heap.size = w.heap.size + 2 := by rw [hw1]; simp [hz0]
  rw [← hw1] at hx1 hB1
  have H0 := hide (show ∀ W : World, At (W.alloc (.cells #[.int .i64 0] 3)) (some ⟨W.heap.size, 0, none⟩) [(0 : Int)] from fun W => At.ofBlk (Blk.new W _ #[.int .i64 0]) [(0 : Int)] rfl)
  have hL1 : At (w1.alloc (.cells #[.int .i64 0] 3)) (some ⟨w.heap.size + 2, 0, none⟩) [(0 : Int)] := by rw [← hz01]; exact H0.out w1
  have hy1 := hx1.belowN (below_new12 w1 (.cells #[.int .i64 0] 3))
  have hC1 := hB1.trans ((below_new12 w1 (.cells #[.int .i64 0] 3)).mono hB1.size)
  obtain ⟨w2, hw2⟩ : ∃ w2, w2 = w1.alloc (.cells #[.int .i64 0] 3) := ⟨_, rfl⟩
  rw [← hw2] at hL1 hy1 hC1
  have HW2 : Hid ((((w.alloc (.cells #[.int .i64 7, .int .i64 0, .int .i64 0, .int .i64 0, .int .u64 1, .int .i64 4, .int .i64 0, .int .i64 0, .int .i64 0, .int .u64 0, .int .i64 5, .int .i64 3, .int .i64 0, .int .i64 0, .int .u64 0, .int .i64 0, .int .i64 0, .int .i64 0, .int .i64 0, .int .u64 0] 99)).alloc (.cells #[.int .i64 4, .slice (some ⟨w.heap.size, 0, none⟩) 4 4] 24)).alloc (.cells #[.int .i64 0] 3)) = w2) := by show _ = _; rw [← hw0, ← hw1, ← hw2]
  have hz2 := hC1.size
  obtain ⟨e0, e1⟩ := ex17_tidy
  obtain ⟨e2, e3, e4⟩ := ex17_pack
  have HT := hide (Tidy_calls 4 _ 4 4 ex17.flat rfl _ 1 1 [0] rfl w2 hy1 (by omega) hL1 (by omega) 0 _ e0 e1)
  rw [show regsIf 0 4 = 4 from rfl] at HT
  have HPK := hide (fun (a : Option Addr) (c : Nat) (W : World) (k1 : At W a ([⟨4, 0, 0, 0, 0⟩] : List OpD)) => Pack_calls 4 a c 1 [⟨4, 0, 0, 0, 0⟩] rfl 1 W k1 (by omega) 0 _ _ e2 e3 e4)
  clear hw0 hw1 hw2 hz0 hx0 hB0 hx1 hB1 e0 e1 e2 e3 e4
  go_enter Try.func43, Try.ntmps43
  go_wp2_with (first
    | (go_at_call 48; rw [HW2.out]; go_must ((with_reducible refine (HT.out).mono ?_); rintro e w3 ⟨a3, c3, m3, rfl, hm3, hown3, hb3⟩; obtain rfl : m3 = 1 := hm3; have hn3 := below_new12 w3 (.cells #[.int .i64 4, .slice a3 1 c3] 24); have hQ3 := Blk.new w3 24 #[.int .i64 4, .slice a3 1 c3]; have hB3 := hC1.trans ((hb3.trans (hn3.mono hb3.size)).mono hz2); have hat3 := hown3.at_.belowN hn3; have hz3 := hB3.size))
    | (go_at_call 51; go_must ((with_reducible refine (HPK.out _ _ _ hat3).mono ?_); rintro e w4 ⟨a4, c4, n4, b4, d4, m4, rfl, hn4, hm4, hown4, hwas4, hb4⟩; obtain rfl : n4 = 1 := hn4; obtain rfl : m4 = 1 := hm4; have hn5 := below_new12 w4 (.cells #[.int .i64 1, .slice a4 1 c4] 24); have hb5 := hb4.trans (hn5.mono hb4.size); have hQ5 := hQ3.belowN hb5; have hat5 := hat3.belowN hb5; have hwas5 := hwas4.at_.belowN hn5; have hB5 := hB3.trans (hb5.mono hz3); have hz5 := hB5.size; obtain ⟨q0, q1, q2, q3⟩ := hQ5.c2; obtain ⟨bb, ob, haq, x0, x1, x2, x3, x4⟩ := getOp_eq hat5 (Below.refl _ _) (show ([⟨4, 0, 0, 0, 0⟩] : List OpD)[0]? = some ⟨4, 0, 0, 0, 0⟩ from rfl); subst haq; rw [Nat.zero_mul, Nat.add_zero] at x0 x1 x2 x3 x4; have h0i := H0.out (w4.alloc (.cells #[.int .i64 1, .slice a4 1 c4] 24)); simp only [World.size_alloc] at h0i))
    | (go_at_call 21; go_must ((with_reducible refine (Ints7N _ _ 1 1 _ _ [0] _ rfl rfl (hwas5.belowN (below_new12 _ _)) h0i (by omega)).mono ?_); rintro e w7 ⟨rfl, q7, rfl⟩)))
  go_ret
  exact ⟨rfl, below_drewN (hB5.alloc hz5 _) _⟩
end Go.Proofs.Ythncfoompoheoaa
