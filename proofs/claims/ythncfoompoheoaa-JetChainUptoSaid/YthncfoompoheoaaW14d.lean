/- Chapter 14: JetChain. -/
import Derived.Deep.RegionHeld3
import Derived.Test.YthncfoompoheoaaW14c
import Derived.Test.YthncfoompoheoaaSj
import Derived.Test.YthncfoompoheoaaQn
namespace Go.Proofs.Ythncfoompoheoaa
set_option linter.unusedVariables false
set_option linter.unusedSimpArgs false
open Go.RowKit
/-- one program behind the other -/
theorem chain14 {regs : Int} {l m : List OpD} {r x X : List UInt64} (hl : l.length ≤ 60) (hm : m.length ≤ 60) (hul : (unrS regs l).length ≤ 3000) (hum : (unrS regs m).length ≤ 3000)
    (h1 : dimsS regs l r.length = 0) (hX : uptoS regs l r (-1) = X) (h2 : pullE regs m X.length x.length = 0) :
    pullE regs l r.length (pullA regs m X x).length = 0 ∧ pullE regs (l ++ m) r.length x.length = 0 ∧ pullA regs (l ++ m) r x = pullA regs l r (pullA regs m X x) := by
  obtain ⟨f, rfl, gf, hn⟩ := dims_good h1
  obtain ⟨g, rfl, gg, hn2, hw⟩ := pull_good h2
  have hp := pullA_length h2
  rw [unrS_good gf, Fo.unroll_length] at hul
  rw [unrS_good gg, Fo.unroll_length] at hum
  have gj : Good regs (f.app g) := gf.app gg (by unfold Fo.size; omega) (by omega)
  rw [← Fo.app_flat']
  have r1 := gf.r1
  refine ⟨pull_of_good gf hn (by omega), pull_of_good gj hn hw, ?_⟩
  rw [uptoS_good gf hn] at hX
  have hu : uptoL f.unroll (-1) = f.unroll := by unfold uptoL; rw [if_pos (by omega)]
  rw [hu] at hX
  have hXl : X.length = regs.toNat := by rw [← hX, runR_length, startR_length _ _ (by omega)]
  have hPl : (backA g.unroll X (startR regs.toNat x)).length = regs.toNat := by rw [backA_length, startR_length _ _ (by omega)]
  rw [pullA_good gj hn hw, pullA_good gg (by omega) hw, startR_whole hXl, pullA_good gf hn (by omega), startR_whole hPl, Fo.unroll_app, backA_append, hX]
set_option maxRecDepth 100000 in
set_option maxHeartbeats 12800000 in
theorem JetChain_calls (regs : Int) (a : Option Addr) (c : Nat) (l : List OpD) (ma : Option Addr) (mc : Nat) (m : List OpD) (ra : Option Addr) (rc : Nat) (r : List UInt64) (xa : Option Addr) (xc : Nat) (x : List UInt64) (w : World) (h : At w a l) (hm : At w ma m) (hr : At w ra r) (hx : At w xa x) (hl : l.length ≤ 1000000) (hml : m.length ≤ 1000000) :
    Calls Try.prog 11 #[.agg #[.int .i64 regs, .slice a l.length c], .slice ma m.length mc, .slice ra r.length rc, .slice xa x.length xc] w fun e w' => e = .returned (.bool true) ∧ Below w.heap.size w w' := by
  have hbA := below_new12 w (.cells #[.int .i64 regs, .slice a l.length c] 24)
  have hb0 := hbA.alloc (by simp) (.cells #[.int .i64 regs, .slice ma m.length mc] 24)
  have hX := (Blk.new w 24 #[.int .i64 regs, .slice a l.length c]).alloc (.cells #[.int .i64 regs, .slice ma m.length mc] 24)
  have hY := Blk.new (w.alloc (.cells #[.int .i64 regs, .slice a l.length c] 24)) 24 #[.int .i64 regs, .slice ma m.length mc]
  simp only [World.size_alloc] at hY
  have h1 := h.belowN hb0
  have hm1 := hm.belowN hb0
  have hr1 := hr.belowN hb0
  have hx1 := hx.belowN hb0
  obtain ⟨w0, hw0⟩ : ∃ w0, w0 = (w.alloc (.cells #[.int .i64 regs, .slice a l.length c] 24)).alloc (.cells #[.int .i64 regs, .slice ma m.length mc] 24) := ⟨_, rfl⟩
  rw [← hw0] at hb0 hX hY h1 hm1 hr1 hx1
  have HW0 : Hid ((w.alloc (.cells #[.int .i64 regs, .slice a l.length c] 24)).alloc (.cells #[.int .i64 regs, .slice ma m.length mc] 24) = w0) := hw0.symm
  have hz0 : w0.heap.size = w.heap.size + 2 := by rw [hw0]; simp
  obtain ⟨o0, o1, o2, o3⟩ := hX.c2
  obtain ⟨n0, n1, n2, n3⟩ := hY.c2
  obtain ⟨rn, hrn⟩ : ∃ rn, rn = r.length := ⟨_, rfl⟩
  obtain ⟨xn, hxn⟩ : ∃ xn, xn = x.length := ⟨_, rfl⟩
  rw [← hrn, ← hxn]
  have HRN := hide hrn
  have HXN := hide hxn
  clear hw0 h hm hr hx hbA
  by_cases g1 : rn ≤ 100
  · by_cases g2 : xn ≤ 100
    · cases hs : small14 regs l 40 200 with
      | false =>
        have HS := hide hs
        clear hs hrn hxn
        go_enter Try.func11, Try.ntmps11
        go_wp2_with (first
          | (go_at_call 33; go_must (rw [HW0.out]; (with_reducible refine (Small14_calls regs a c l _ _ false HS.out _ h1 hl (by omega) (by omega)).mono ?_); rintro e w1 ⟨rfl, hC1⟩; obtain ⟨p4, p5, p6, p7⟩ := (hY.belowN hC1).c2))
          | (go_at_call 29; go_must ((with_reducible refine (goes14_calls _).mono ?_); rintro e w8 ⟨rfl, hb8⟩))
          | fail)
        go_ret
        exact ⟨rfl, hb0.trans ((hC1.trans (hb8.mono hC1.size)).mono hb0.size)⟩
      | true =>
        have HS := hide hs
        cases ht : small14 regs m 40 200 with
        | false =>
          have HT := hide ht
          clear hs ht hrn hxn
          go_enter Try.func11, Try.ntmps11
          go_wp2_with (first
          | (go_at_call 33; first
              | (have hgd := hC1; go_must ((with_reducible refine (Small14_calls regs ma mc m _ _ false HT.out _ (hm1.belowN hC1) hml (by omega) (by omega)).mono ?_); rintro e w2 ⟨rfl, hb2⟩; have hC2 := hC1.trans (hb2.mono hC1.size); obtain ⟨q0, q1, q2, q3⟩ := (hX.belowN hC2).c2; obtain ⟨q4, q5, q6, q7⟩ := (hY.belowN hC2).c2))
              | go_must (rw [HW0.out]; (with_reducible refine (Small14_calls regs a c l _ _ true HS.out _ h1 hl (by omega) (by omega)).mono ?_); rintro e w1 ⟨rfl, hC1⟩; obtain ⟨p0, p1, p2, p3⟩ := (hX.belowN hC1).c2; obtain ⟨p4, p5, p6, p7⟩ := (hY.belowN hC1).c2))
          | (go_at_call 29; go_must ((with_reducible refine (goes14_calls _).mono ?_); rintro e w8 ⟨rfl, hb8⟩))
          | fail)
          go_ret
          exact ⟨rfl, hb0.trans ((hC2.trans (hb8.mono hC2.size)).mono hb0.size)⟩
        | true =>
          have HT := hide ht
          have hll := small14_le hs
          have hmm := small14_le ht
          have hlf := small14_few hs (by omega)
          have hmf := small14_few ht (by omega)
          obtain ⟨X, hXX⟩ : ∃ X, uptoS regs l r (-1) = X := ⟨_, rfl⟩
          obtain ⟨E, hE⟩ : ∃ E, dimsS regs l r.length = E := ⟨_, rfl⟩
          obtain ⟨B, hB⟩ : ∃ B, pullA regs m X x = B := ⟨_, rfl⟩
          obtain ⟨F, hF⟩ : ∃ F, pullE regs m X.length xn = F := ⟨_, rfl⟩
          obtain ⟨A, hA⟩ : ∃ A, pullA regs l r B = A := ⟨_, rfl⟩
          have hBl := pullA_len regs m X x
          have hAl := pullA_len regs l r B
          rw [hB] at hBl
          rw [hA] at hAl
          have hXl : X.length ≤ 64 := by
            by_cases h9 : dimsS regs l r.length = 0
            · obtain ⟨f, e9, gf, hn⟩ := dims_good h9
              rw [← hXX, e9, uptoS_good gf hn, runR_length, startR_length _ _ (by omega)]
              have := gf.r2; omega
            · rw [← hXX, uptoS_bad h9]; simp
          have HJ : Hid (E = 0 → F = 0 → pullE regs l rn B.length = 0 ∧ pullE regs (l ++ m) rn xn = 0 ∧ pullA regs (l ++ m) r x = A) := fun e1 e2 => by
            obtain ⟨j1, j2, j3⟩ := chain14 (regs := regs) (l := l) (m := m) (r := r) (x := x) (X := X) (by omega) (by omega) (by omega) (by omega) (hE.trans e1) hXX (by rw [← hxn]; exact hF.trans e2)
            rw [hB] at j1 j3
            rw [hA] at j3
            exact ⟨by rw [hrn]; exact j1, by rw [hrn, hxn]; exact j2, j3⟩
          have HXX := hide hXX
          have HE := hide hE
          have HB := hide hB
          have HF := hide hF
          have HA := hide hA
          have HLM := hide (show l.length + m.length = (l ++ m).length by simp)
          clear hs ht hlf hmf hXX hE hB hF hA hrn hxn
          by_cases hE0 : E = 0
          · subst hE0
            by_cases hF0 : F = 0
            · obtain ⟨j1, j2, j3⟩ := HJ.out rfl hF0
              have HG := hide j1
              have HH := hide j2
              have HC := hide j3
              subst hF0
              clear j1 j2 j3 HJ
              go_enter Try.func11, Try.ntmps11
              go_wp2_with (first
          | (go_at_call 33; first
              | (have hgd := hC1; go_must ((with_reducible refine (Small14_calls regs ma mc m _ _ true HT.out _ (hm1.belowN hC1) hml (by omega) (by omega)).mono ?_); rintro e w2 ⟨rfl, hb2⟩; have hC2 := hC1.trans (hb2.mono hC1.size); obtain ⟨q0, q1, q2, q3⟩ := (hX.belowN hC2).c2; obtain ⟨q4, q5, q6, q7⟩ := (hY.belowN hC2).c2))
              | go_must (rw [HW0.out]; (with_reducible refine (Small14_calls regs a c l _ _ true HS.out _ h1 hl (by omega) (by omega)).mono ?_); rintro e w1 ⟨rfl, hC1⟩; obtain ⟨p0, p1, p2, p3⟩ := (hX.belowN hC1).c2; obtain ⟨p4, p5, p6, p7⟩ := (hY.belowN hC1).c2))
          | (go_at_call 55; go_must ((with_reducible refine (RunN regs a c _ l ra rc rn r w2 X 0 rfl HRN.out HXX.out HE.out (h1.belowN hC2) hl (hr1.belowN hC2) (by omega)).mono ?_); rintro e w3 ⟨a3, c3, rfl, hX3, hb3⟩; have hC3 := hC2.trans (hb3.mono hC2.size); obtain ⟨p0, p1, p2, p3⟩ := (hX.belowN hC3).c2; obtain ⟨p4, p5, p6, p7⟩ := (hY.belowN hC3).c2))
          | (go_at_call 38; first
              | (have hgd := hB4; go_must ((with_reducible refine (JPull_calls regs a c _ l rfl ra rn rc r HRN.out a4 _ c4 B rfl A 0 HA.out HG.out w4 (h1.belowN hC4) hl (hr1.belowN hC4) hB4.at_ (by omega) (by omega)).mono ?_); rintro e w5 ⟨a5, c5, rfl, hA5, hb5⟩; have hC5 := hC4.trans (hb5.mono hC4.size); obtain ⟨p0, p1, p2, p3⟩ := (hX.belowN hC5).c2; obtain ⟨p4, p5, p6, p7⟩ := (hY.belowN hC5).c2))
              | go_must ((with_reducible refine (JPull_calls regs ma mc _ m rfl a3 _ c3 X rfl xa xn xc x HXN.out B 0 HB.out HF.out w3 (hm1.belowN hC3) hml hX3.at_ (hx1.belowN hC3) (by omega) (by omega)).mono ?_); rintro e w4 ⟨a4, c4, rfl, hB4, hb4⟩; have hC4 := hC3.trans (hb4.mono hC3.size); obtain ⟨p0, p1, p2, p3⟩ := (hX.belowN hC4).c2; obtain ⟨p4, p5, p6, p7⟩ := (hY.belowN hC4).c2))
          | fail)
              have hz5 := hC5.size
              have hm12 := hm1.belowN hC5
              have hr12 := hr1.belowN hC5
              have hl12 := h1.belowN hC5
              have hx12 := hx1.belowN hC5
              have hX12 := hX.belowN hC5
              have t1 := hX12.lt
              have hO0 : Own (w5.drew.alloc (.cells #[] 99)) w5.heap.size 99 (some ⟨w5.heap.size, 0, none⟩) 0 ([] : List OpD) := Own.new w5.drew (Nat.le_refl _) 99 OpD
              have hN0 : Below w5.heap.size w5 (w5.drew.alloc (.cells #[] 99)) := Below.alloc (Below.drew (Below.refl _ _)) (Nat.le_refl _) _
              go_region_held3 (fun w' => w'.cell? ⟨w.heap.size, 0, none⟩ = some (.int .i64 regs) ∧ w'.cell? ⟨w.heap.size, 1, none⟩ = some (.slice a l.length c)) (go_keep)
                (first
                  | (refine step_pushAll tyO hown14 (l2 := m) (hm12.belowN hB46) rfl rfl rfl rfl (by simp) rfl hz46 (by omega) (by omega) ?_; intro a15 c15 w15 hown15 hg15 _; have hB47 := below_push hB46 hown14 hg15 hz46; have hz47 := hB47.size; obtain ⟨u0, u1, u2, u3⟩ := (hX12.belowN hB47).c2)
                  | (refine step_pushAll tyO hO0 (l2 := l) (hl12.belowN hN0) rfl rfl rfl rfl rfl rfl (by simp) (by omega) (by omega) ?_; intro a14 c14 w14 hown14 hg14 _; have hB46 := below_push hN0 hO0 hg14 (by simp); have hz46 := hB46.size; obtain ⟨v0, v1, v2, v3⟩ := (hX12.belowN hB46).c2; rw [List.nil_append] at hown14)
                  | (go_at_call 38; go_must ((with_reducible refine (JPull_calls regs _ _ _ (l ++ m) HLM.out ra rn rc r HRN.out xa xn xc x HXN.out A 0 HC.out HH.out _ hown15.at_ (by omega) (hr12.belowN hB47) (hx12.belowN hB47) (by omega) (by omega)).mono ?_); rintro e w16 ⟨a16, c16, rfl, hown16, hb16⟩; have hB48 := hB47.trans (hb16.mono hz47); have hz48 := hB48.size; obtain ⟨y0, y1, y2, y3⟩ := (hX12.belowN hB48).c2)))
              have hC16 := hC5.trans (hB48.mono hz5)
              have hAA := (hA5.belowN hB48).at_
              clear hown14 hown15 hO0 hN0
              go_wp2_with (first
                | (go_at_call 27; go_must ((with_reducible refine (Same5N _ _ _ _ _ _ A _ rfl rfl hAA hown16.at_ (by omega)).mono ?_); rintro e w17 ⟨rfl, q17, hw17⟩; have hC17 : Below _ _ w17 := (by rw [hw17]; exact below_drewN hC16 _); clear hw17))
                | (go_at_call 29; go_must ((with_reducible refine (goes14_calls _).mono ?_); rintro e w18 ⟨rfl, hb18⟩)))
              go_ret
              exact ⟨rfl, hb0.trans ((hC17.trans (hb18.mono hC17.size)).mono hb0.size)⟩
            · have d1 : (F == 0) = false := by simpa using hF0
              have d2 : (F != 0) = true := by simpa using hF0
              clear hF0 HJ
              go_enter Try.func11, Try.ntmps11
              go_wp2_with (first
          | (go_at_call 33; first
              | (have hgd := hC1; go_must ((with_reducible refine (Small14_calls regs ma mc m _ _ true HT.out _ (hm1.belowN hC1) hml (by omega) (by omega)).mono ?_); rintro e w2 ⟨rfl, hb2⟩; have hC2 := hC1.trans (hb2.mono hC1.size); obtain ⟨q0, q1, q2, q3⟩ := (hX.belowN hC2).c2; obtain ⟨q4, q5, q6, q7⟩ := (hY.belowN hC2).c2))
              | go_must (rw [HW0.out]; (with_reducible refine (Small14_calls regs a c l _ _ true HS.out _ h1 hl (by omega) (by omega)).mono ?_); rintro e w1 ⟨rfl, hC1⟩; obtain ⟨p0, p1, p2, p3⟩ := (hX.belowN hC1).c2; obtain ⟨p4, p5, p6, p7⟩ := (hY.belowN hC1).c2))
          | (go_at_call 55; go_must ((with_reducible refine (RunN regs a c _ l ra rc rn r w2 X 0 rfl HRN.out HXX.out HE.out (h1.belowN hC2) hl (hr1.belowN hC2) (by omega)).mono ?_); rintro e w3 ⟨a3, c3, rfl, hX3, hb3⟩; have hC3 := hC2.trans (hb3.mono hC2.size); obtain ⟨p0, p1, p2, p3⟩ := (hX.belowN hC3).c2; obtain ⟨p4, p5, p6, p7⟩ := (hY.belowN hC3).c2))
          | (go_at_call 38; first
              | (have hgd := hB4; go_must ((with_reducible refine (JPull_calls regs a c _ l rfl ra rn rc r HRN.out a4 _ c4 B rfl A 0 HA.out HG.out w4 (h1.belowN hC4) hl (hr1.belowN hC4) hB4.at_ (by omega) (by omega)).mono ?_); rintro e w5 ⟨a5, c5, rfl, hA5, hb5⟩; have hC5 := hC4.trans (hb5.mono hC4.size); obtain ⟨p0, p1, p2, p3⟩ := (hX.belowN hC5).c2; obtain ⟨p4, p5, p6, p7⟩ := (hY.belowN hC5).c2))
              | go_must ((with_reducible refine (JPull_calls regs ma mc _ m rfl a3 _ c3 X rfl xa xn xc x HXN.out B F HB.out HF.out w3 (hm1.belowN hC3) hml hX3.at_ (hx1.belowN hC3) (by omega) (by omega)).mono ?_); rintro e w4 ⟨a4, c4, rfl, hB4, hb4⟩; have hC4 := hC3.trans (hb4.mono hC3.size); obtain ⟨p0, p1, p2, p3⟩ := (hX.belowN hC4).c2; obtain ⟨p4, p5, p6, p7⟩ := (hY.belowN hC4).c2))
          | (go_at_call 29; go_must ((with_reducible refine (goes14_calls _).mono ?_); rintro e w8 ⟨rfl, hb8⟩))
          | fail)
              go_ret
              exact ⟨rfl, hb0.trans ((hC4.trans (hb8.mono hC4.size)).mono hb0.size)⟩
          · have d1 : (E == 0) = false := by simpa using hE0
            have d2 : (E != 0) = true := by simpa using hE0
            clear hE0 HJ
            go_enter Try.func11, Try.ntmps11
            go_wp2_with (first
          | (go_at_call 33; first
              | (have hgd := hC1; go_must ((with_reducible refine (Small14_calls regs ma mc m _ _ true HT.out _ (hm1.belowN hC1) hml (by omega) (by omega)).mono ?_); rintro e w2 ⟨rfl, hb2⟩; have hC2 := hC1.trans (hb2.mono hC1.size); obtain ⟨q0, q1, q2, q3⟩ := (hX.belowN hC2).c2; obtain ⟨q4, q5, q6, q7⟩ := (hY.belowN hC2).c2))
              | go_must (rw [HW0.out]; (with_reducible refine (Small14_calls regs a c l _ _ true HS.out _ h1 hl (by omega) (by omega)).mono ?_); rintro e w1 ⟨rfl, hC1⟩; obtain ⟨p0, p1, p2, p3⟩ := (hX.belowN hC1).c2; obtain ⟨p4, p5, p6, p7⟩ := (hY.belowN hC1).c2))
          | (go_at_call 55; go_must ((with_reducible refine (RunN regs a c _ l ra rc rn r w2 X E rfl HRN.out HXX.out HE.out (h1.belowN hC2) hl (hr1.belowN hC2) (by omega)).mono ?_); rintro e w3 ⟨a3, c3, rfl, hX3, hb3⟩; have hC3 := hC2.trans (hb3.mono hC2.size); obtain ⟨p0, p1, p2, p3⟩ := (hX.belowN hC3).c2; obtain ⟨p4, p5, p6, p7⟩ := (hY.belowN hC3).c2))
          | (go_at_call 38; first
              | (have hgd := hB4; go_must ((with_reducible refine (JPull_calls regs a c _ l rfl ra rn rc r HRN.out a4 _ c4 B rfl A 0 HA.out HG.out w4 (h1.belowN hC4) hl (hr1.belowN hC4) hB4.at_ (by omega) (by omega)).mono ?_); rintro e w5 ⟨a5, c5, rfl, hA5, hb5⟩; have hC5 := hC4.trans (hb5.mono hC4.size); obtain ⟨p0, p1, p2, p3⟩ := (hX.belowN hC5).c2; obtain ⟨p4, p5, p6, p7⟩ := (hY.belowN hC5).c2))
              | go_must ((with_reducible refine (JPull_calls regs ma mc _ m rfl a3 _ c3 X rfl xa xn xc x HXN.out B F HB.out HF.out w3 (hm1.belowN hC3) hml hX3.at_ (hx1.belowN hC3) (by omega) (by omega)).mono ?_); rintro e w4 ⟨a4, c4, rfl, hB4, hb4⟩; have hC4 := hC3.trans (hb4.mono hC3.size); obtain ⟨p0, p1, p2, p3⟩ := (hX.belowN hC4).c2; obtain ⟨p4, p5, p6, p7⟩ := (hY.belowN hC4).c2))
          | (go_at_call 29; go_must ((with_reducible refine (goes14_calls _).mono ?_); rintro e w8 ⟨rfl, hb8⟩))
          | fail)
            go_ret
            exact ⟨rfl, hb0.trans ((hC3.trans (hb8.mono hC3.size)).mono hb0.size)⟩
    · 
        go_enter Try.func11, Try.ntmps11
        go_wp2_with (go_at_call 29; go_must (rw [HW0.out]; (with_reducible refine (goes14_calls _).mono ?_); rintro e w8 ⟨rfl, hb8⟩))
        go_ret
        exact ⟨rfl, hb0.trans (hb8.mono hb0.size)⟩
  · 
        go_enter Try.func11, Try.ntmps11
        go_wp2_with (go_at_call 29; go_must (rw [HW0.out]; (with_reducible refine (goes14_calls _).mono ?_); rintro e w8 ⟨rfl, hb8⟩))
        go_ret
        exact ⟨rfl, hb0.trans (hb8.mono hb0.size)⟩
end Go.Proofs.Ythncfoompoheoaa
