/- Chapter 17: the laws TidyPacks and TidyTells. -/
import Derived.Test.YthncfoompoheoaaW17j
import Derived.Test.YthncfoompoheoaaQn
namespace Go.Proofs.Ythncfoompoheoaa
set_option linter.unusedVariables false
set_option linter.unusedSimpArgs false
open Go.RowKit
theorem small_le17 {regs : Int} {l : List OpD} {m : Int} (h : small13 regs l m = true) : (l.length : Int) ≤ m := by
  unfold small13 at h
  simp only [Bool.and_eq_true, decide_eq_true_eq] at h
  exact h.1
theorem pack_sizes (regs : Int) (l : List OpD) (keep : Int) : (packW regs l keep).length ≤ 64 ∧ (packL regs l keep).length ≤ l.length := by
  constructor
  · unfold packW
    split
    · rename_i h
      obtain ⟨f, _, g, _, _⟩ := packE_good h
      have := g.r2
      have := g.r1
      have := wasL_length keep l regs.toNat
      omega
    · simp
  · unfold packL
    split
    · simp
    · simp
theorem openL_le (regs : Int) (l : List OpD) : (openL regs l).length ≤ 4096 := by
  unfold openL
  split
  · rename_i h
    obtain ⟨f, rfl, g⟩ := good_of_check h
    rw [fo_flat g.ok]
    exact g.opn.len
  · simp
theorem tidyL_le (regs : Int) (l : List OpD) (outs : List Int) : (tidyL regs l outs).length ≤ 4096 := by
  unfold tidyL
  split
  · exact openL_le _ _
  · simp
set_option maxRecDepth 100000 in
set_option maxHeartbeats 3200000 in
theorem TidyPacks_calls (regs : Int) (a : Option Addr) (c : Nat) (l : List OpD) (keep : Int) (w : World) (h : At w a l) :
    Calls Try.prog 9 #[.agg #[.int .i64 regs, .slice a l.length c], .int .i64 keep] w fun e w' => e = .returned (.bool true) ∧ Below w.heap.size w w' := by
  have hb0 := below_new12 w (.cells #[.int .i64 regs, .slice a l.length c] 24)
  have hX := Blk.new w 24 #[.int .i64 regs, .slice a l.length c]
  have h1 := h.belowN hb0
  obtain ⟨ln, hln⟩ : ∃ ln, ln = l.length := ⟨_, rfl⟩
  rw [← hln]
  rw [← hln] at hX hb0 h1
  by_cases hg : 100 < ln
  · clear hln
    go_enter Try.func9, Try.ntmps9
    go_wp2_with (go_at_call 43; go_must ((with_reducible refine (goes17_calls _).mono ?_); rintro e w8 ⟨rfl, hb8⟩))
    go_ret
    exact ⟨rfl, hb0.trans (hb8.mono hb0.size)⟩
  · obtain ⟨hWl, hLl⟩ := pack_sizes regs l keep
    obtain ⟨E, hE⟩ : ∃ E, packE regs l keep = E := ⟨_, rfl⟩
    obtain ⟨W, hW⟩ : ∃ W, packW regs l keep = W := ⟨_, rfl⟩
    obtain ⟨L, hL⟩ : ∃ L, packL regs l keep = L := ⟨_, rfl⟩
    rw [hW] at hWl
    rw [hL, ← hln] at hLl
    have HP := hide (fun (w : World) (k1 : At w a l) => Pack_calls regs a c ln l hln keep w k1 (by omega) E W L hE hW hL)
    have HR := hide (fun (w : World) (k1 : At w a l) => RPack_calls regs a c ln l hln keep w k1 (by omega) E W L hE hW hL)
    clear hln hE hW hL
    go_enter Try.func9, Try.ntmps9
    go_wp2_with (first
      | (go_at_call 51; go_must ((with_reducible refine (HP.out _ h1).mono ?_); rintro e w1 ⟨a1, c1, n1, b1, d1, m1, rfl, hn1, hm1, hown1, hwas1, hb1⟩; have hn1b : n1 ≤ 100 := (by omega); have hm1b : m1 ≤ 64 := (by omega); have HN1 := hide hn1; have HM1 := hide hm1; have hx1 := below_new12 w1 (.cells #[.int .i64 (m1 : Int), .slice a1 n1 c1] 24); have hC1 := hb1.trans (hx1.mono hb1.size); have hY1 := Blk.new w1 24 #[.int .i64 (m1 : Int), .slice a1 n1 c1]; have hz1 := hC1.size; obtain ⟨p0, p1, _, _⟩ := (hX.belowN hC1).c2; have hA1 := hown1.at_.belowN hx1; have hB1 := hwas1.at_.belowN hx1; clear hn1 hm1))
      | (go_at_call 52; go_must ((with_reducible refine (HR.out _ (h1.belowN hC1)).mono ?_); rintro e w2 ⟨a2, c2, n2, b2, d2, m2, rfl, hn2, hm2, hown2, hwas2, hb2⟩; obtain rfl : m2 = m1 := (hm2.trans HM1.out.symm); have HN2 := hide hn2; have hx2 := below_new12 w2 (.cells #[.int .i64 (m2 : Int), .slice a2 n2 c2] 24); have hD2 := hb2.trans (hx2.mono hb2.size); have hC2 := hC1.trans (hD2.mono hz1); have hY2 := Blk.new w2 24 #[.int .i64 (m2 : Int), .slice a2 n2 c2]; have hz2 := hC2.size; have hA1' := hA1.belowN hD2; have hB1' := hB1.belowN hD2; have hA2 := hown2.at_.belowN hx2; have hB2 := hwas2.at_.belowN hx2; obtain ⟨y0, y1, _, _⟩ := (hY1.belowN hD2).c2; clear hn2 hm2))
      | (go_at_call 50; go_must ((with_reducible refine (Same17_calls (m2 : Int) a1 a2 c1 c2 n1 n2 L HN1.out HN2.out _ hA1' hA2 (by omega)).mono ?_); rintro e w3 ⟨rfl, hb3⟩; have hC3 := hC2.trans (hb3.mono hz2); have hB1c := hB1'.belowN hb3; have hB2c := hB2.belowN hb3))
      | (go_at_call 21; go_must ((with_reducible refine (Ints7N b1 b2 m2 m2 d1 d2 W _ HM1.out HM1.out hB1c hB2c (by omega)).mono ?_); rintro e w4 ⟨rfl, q4, rfl⟩; have hC4 := below_drewN hC3 q4))
      | (go_at_call 43; go_must ((with_reducible refine (goes17_calls _).mono ?_); rintro e w8 ⟨rfl, hb8⟩)))
    go_ret
    exact ⟨rfl, hb0.trans ((hC4.trans (hb8.mono hC4.size)).mono hb0.size)⟩
set_option maxRecDepth 100000 in
set_option maxHeartbeats 6400000 in
theorem TidyTells_calls (regs : Int) (a : Option Addr) (c : Nat) (l : List OpD) (oa : Option Addr) (oc : Nat) (outs : List Int) (w : World) (h : At w a l) (ho : At w oa outs) :
    Calls Try.prog 8 #[.agg #[.int .i64 regs, .slice a l.length c], .slice oa outs.length oc] w fun e w' => e = .returned (.bool true) ∧ Below w.heap.size w w' := by
  have hb0 := below_new12 w (.cells #[.int .i64 regs, .slice a l.length c] 24)
  have hX := Blk.new w 24 #[.int .i64 regs, .slice a l.length c]
  have h1 := h.belowN hb0
  have ho1 := ho.belowN hb0
  obtain ⟨n, hn⟩ : ∃ n, n = outs.length := ⟨_, rfl⟩
  have HN := hide hn
  rw [← hn]
  by_cases hg : n ≤ 100
  · cases hs : small13 regs l 100 with
    | false =>
      have HS := hide hs
      clear hs hn
      go_enter Try.func8, Try.ntmps8
      go_wp2_with (first
        | (go_at_call 28; go_must ((with_reducible refine (Small13_calls regs a c l _ false HS.out _ h1 (by omega)).mono ?_); rintro e w1 ⟨rfl, hb1⟩; have hB1 := hb0.trans (hb1.mono hb0.size); have hz1 := hB1.size))
        | (go_at_call 43; go_must ((with_reducible refine (goes17_calls _).mono ?_); rintro e w8 ⟨rfl, hb8⟩)))
      go_ret
      exact ⟨rfl, hB1.trans (hb8.mono hz1)⟩
    | true =>
      have hl := small_le17 hs
      have HS := hide hs
      have hsl := siftL_length (regs := regs) (l := l) (outs := outs)
      have hol := openL_le regs l
      have htl := tidyL_le regs l outs
      obtain ⟨ln, hln⟩ : ∃ ln, ln = l.length := ⟨_, rfl⟩
      have hl100 : ln ≤ 100 := by omega
      obtain ⟨E, hE⟩ : ∃ E, liveE regs l outs = E := ⟨_, rfl⟩
      obtain ⟨G, hG⟩ : ∃ G, checkS regs l = G := ⟨_, rfl⟩
      obtain ⟨S, hS⟩ : ∃ S, siftL regs l outs = S := ⟨_, rfl⟩
      obtain ⟨O, hO⟩ : ∃ O, openL regs l = O := ⟨_, rfl⟩
      obtain ⟨T, hT⟩ : ∃ T, tidyL regs l outs = T := ⟨_, rfl⟩
      rw [hS] at hsl
      rw [hO] at hol
      rw [hT] at htl
      have HSM := hide (Small13_calls regs a c l _ true HS.out _ h1 (by omega))
      have HF1 := hide (fun (W : World) (k1 : At W a l) (k2 : At W oa outs) => Sift_calls regs a c ln l hln oa oc n outs HN.out W k1 (by omega) k2 (by omega) E S hE hS)
      have HF2 := hide (fun (W : World) (k1 : At W a l) (k2 : At W oa outs) => RSift_calls regs a c ln l hln oa oc n outs HN.out W k1 (by omega) k2 (by omega) E S hE hS)
      have HF3 := hide (fun (W : World) (k1 : At W a l) => Open_calls regs a c ln l hln W k1 (by omega) G O hG hO)
      have HF4 := hide (fun (W : World) (k1 : At W a l) => ROpen_calls regs a c ln l hln W k1 (by omega) G O hG hO)
      have HF5 := hide (fun (W : World) (k1 : At W a l) (k2 : At W oa outs) => Tidy_calls regs a c ln l hln oa oc n outs HN.out W k1 (by omega) k2 (by omega) E T hE hT)
      have HF6 := hide (fun (W : World) (k1 : At W a l) (k2 : At W oa outs) => RTidy_calls regs a c ln l hln oa oc n outs HN.out W k1 (by omega) k2 (by omega) E T hE hT)
      obtain ⟨R1, hR1⟩ : ∃ R1, regsIf E regs = R1 := ⟨_, rfl⟩
      obtain ⟨R2, hR2⟩ : ∃ R2, regsIf G regs = R2 := ⟨_, rfl⟩
      rw [hR1] at HF1 HF2 HF5 HF6
      rw [hR2] at HF3 HF4
      rw [← hln] at HSM h1 hX hb0 ho1 ⊢
      clear hs hn hl hln hE hG hS hO hT hR1 hR2
      go_enter Try.func8, Try.ntmps8
      go_wp2_with (first
        | (go_at_call 28; go_must ((with_reducible refine (HSM.out).mono ?_); rintro e w1 ⟨rfl, hC1⟩; have hz1 := hC1.size; obtain ⟨p10, p11, _, _⟩ := (hX.belowN hC1).c2))
        | (go_at_call 44; go_must ((with_reducible refine (HF1.out _ (h1.belowN hC1) (ho1.belowN hC1)).mono ?_); rintro e w2 ⟨a2, c2, n2, rfl, hn2, hown2, hb2⟩; have HN2 := hide hn2; have hn2b : n2 ≤ 4096 := (by omega); have hx2 := below_new12 w2 (.cells #[.int .i64 R1, .slice a2 n2 c2] 24); have hD2 := hb2.trans (hx2.mono hb2.size); have hC2 := hC1.trans (hD2.mono hz1); have hY2 := Blk.new w2 24 #[.int .i64 R1, .slice a2 n2 c2]; have hz2 := hC2.size; have hA2 := hown2.at_.belowN hx2; obtain ⟨p20, p21, _, _⟩ := (hX.belowN hC2).c2; clear hn2))
        | (go_at_call 45; go_must ((with_reducible refine (HF2.out _ (h1.belowN hC2) (ho1.belowN hC2)).mono ?_); rintro e w3 ⟨a3, c3, n3, rfl, hn3, hown3, hb3⟩; have HN3 := hide hn3; have hx3 := below_new12 w3 (.cells #[.int .i64 R1, .slice a3 n3 c3] 24); have hD3 := hb3.trans (hx3.mono hb3.size); have hC3 := hC2.trans (hD3.mono hz2); have hY3 := Blk.new w3 24 #[.int .i64 R1, .slice a3 n3 c3]; have hz3 := hC3.size; have hA3 := hown3.at_.belowN hx3; have hE23 := hD3; obtain ⟨p30, p31, _, _⟩ := (hX.belowN hC3).c2; clear hn3))
        | (go_at_call 46; go_must ((with_reducible refine (HF3.out _ (h1.belowN hC3)).mono ?_); rintro e w4 ⟨a4, c4, n4, rfl, hn4, hown4, hb4⟩; have HN4 := hide hn4; have hn4b : n4 ≤ 4096 := (by omega); have hx4 := below_new12 w4 (.cells #[.int .i64 R2, .slice a4 n4 c4] 24); have hD4 := hb4.trans (hx4.mono hb4.size); have hC4 := hC3.trans (hD4.mono hz3); have hY4 := Blk.new w4 24 #[.int .i64 R2, .slice a4 n4 c4]; have hz4 := hC4.size; have hA4 := hown4.at_.belowN hx4; have hE24 := hE23.trans (hD4.mono hE23.size); have hE34 := hD4; obtain ⟨p40, p41, _, _⟩ := (hX.belowN hC4).c2; clear hn4))
        | (go_at_call 47; go_must ((with_reducible refine (HF4.out _ (h1.belowN hC4)).mono ?_); rintro e w5 ⟨a5, c5, n5, rfl, hn5, hown5, hb5⟩; have HN5 := hide hn5; have hx5 := below_new12 w5 (.cells #[.int .i64 R2, .slice a5 n5 c5] 24); have hD5 := hb5.trans (hx5.mono hb5.size); have hC5 := hC4.trans (hD5.mono hz4); have hY5 := Blk.new w5 24 #[.int .i64 R2, .slice a5 n5 c5]; have hz5 := hC5.size; have hA5 := hown5.at_.belowN hx5; have hE25 := hE24.trans (hD5.mono hE24.size); have hE35 := hE34.trans (hD5.mono hE34.size); have hE45 := hD5; obtain ⟨p50, p51, _, _⟩ := (hX.belowN hC5).c2; clear hn5))
        | (go_at_call 48; go_must ((with_reducible refine (HF5.out _ (h1.belowN hC5) (ho1.belowN hC5)).mono ?_); rintro e w6 ⟨a6, c6, n6, rfl, hn6, hown6, hb6⟩; have HN6 := hide hn6; have hn6b : n6 ≤ 4096 := (by omega); have hx6 := below_new12 w6 (.cells #[.int .i64 R1, .slice a6 n6 c6] 24); have hD6 := hb6.trans (hx6.mono hb6.size); have hC6 := hC5.trans (hD6.mono hz5); have hY6 := Blk.new w6 24 #[.int .i64 R1, .slice a6 n6 c6]; have hz6 := hC6.size; have hA6 := hown6.at_.belowN hx6; have hE26 := hE25.trans (hD6.mono hE25.size); have hE36 := hE35.trans (hD6.mono hE35.size); have hE46 := hE45.trans (hD6.mono hE45.size); have hE56 := hD6; obtain ⟨p60, p61, _, _⟩ := (hX.belowN hC6).c2; clear hn6))
        | (go_at_call 49; go_must ((with_reducible refine (HF6.out _ (h1.belowN hC6) (ho1.belowN hC6)).mono ?_); rintro e w7 ⟨a7, c7, n7, rfl, hn7, hown7, hb7⟩; have HN7 := hide hn7; have hx7 := below_new12 w7 (.cells #[.int .i64 R1, .slice a7 n7 c7] 24); have hD7 := hb7.trans (hx7.mono hb7.size); have hC7 := hC6.trans (hD7.mono hz6); have hY7 := Blk.new w7 24 #[.int .i64 R1, .slice a7 n7 c7]; have hz7 := hC7.size; have hA7 := hown7.at_.belowN hx7; have hE27 := hE26.trans (hD7.mono hE26.size); have hE37 := hE36.trans (hD7.mono hE36.size); have hE47 := hE46.trans (hD7.mono hE46.size); have hE57 := hE56.trans (hD7.mono hE56.size); have hE67 := hD7; obtain ⟨u20, u21, _, _⟩ := (hY2.belowN hE27).c2; obtain ⟨u30, u31, _, _⟩ := (hY3.belowN hE37).c2; clear hn7))
        | (have hgd := HS9; go_at_call 50; go_must ((with_reducible refine (Same17_calls R1 a6 a7 c6 c7 n6 n7 T HN6.out HN7.out _ ((hA6.belowN hE67).belowN hK9) (hA7.belowN hK9) (by omega)).mono ?_); rintro e w10 ⟨rfl, hb10⟩; have hC10 := hC9.trans (hb10.mono hz9)))
        | (have hgd := HS8; go_at_call 50; go_must ((with_reducible refine (Same17_calls R2 a4 a5 c4 c5 n4 n5 O HN4.out HN5.out _ ((hA4.belowN hE47).belowN hb8) ((hA5.belowN hE57).belowN hb8) (by omega)).mono ?_); rintro e w9 ⟨rfl, hb9⟩; have hC9 := hC8.trans (hb9.mono hz8); have hz9 := hC9.size; have hK9 := hb8.trans (hb9.mono hb8.size); have HS9 := HN6; obtain ⟨u60, u61, _, _⟩ := ((hY6.belowN hE67).belowN hK9).c2; obtain ⟨u70, u71, _, _⟩ := (hY7.belowN hK9).c2))
        | (go_at_call 50; go_must ((with_reducible refine (Same17_calls R1 a2 a3 c2 c3 n2 n3 S HN2.out HN3.out _ (hA2.belowN hE27) (hA3.belowN hE37) (by omega)).mono ?_); rintro e w8 ⟨rfl, hb8⟩; have hC8 := hC7.trans (hb8.mono hz7); have hz8 := hC8.size; have HS8 := HN4; obtain ⟨u40, u41, _, _⟩ := ((hY4.belowN hE47).belowN hb8).c2; obtain ⟨u50, u51, _, _⟩ := ((hY5.belowN hE57).belowN hb8).c2))
        | (go_at_call 43; go_must ((with_reducible refine (goes17_calls _).mono ?_); rintro e w11 ⟨rfl, hb11⟩)))
      go_ret
      exact ⟨rfl, hb0.trans ((hC10.trans (hb11.mono hC10.size)).mono hb0.size)⟩
  · have hg1 : 100 < n := by omega
    clear hn
    go_enter Try.func8, Try.ntmps8
    go_wp2_with (go_at_call 43; go_must ((with_reducible refine (goes17_calls _).mono ?_); rintro e w8 ⟨rfl, hb8⟩))
    go_ret
    exact ⟨rfl, hb0.trans (hb8.mono hb0.size)⟩
end Go.Proofs.Ythncfoompoheoaa
